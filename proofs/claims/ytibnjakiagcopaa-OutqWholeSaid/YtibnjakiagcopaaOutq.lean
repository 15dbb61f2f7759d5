/- A queue of messages in memory: its object, its items, their bytes, its numbers. No condition. -/
import Derived.Test.YtibnjakiagcopaaOff
import Derived.Test.YtibnjakiagcopaaFragFns
import Derived.Deep.RegionHeld3
namespace Go.Proofs.Ytibnjakiagcopaa
open Go.RowKit Go.Deep
set_option linter.unusedVariables false
set_option linter.unusedSimpArgs false

/-- A message that waits: its stream, whether it is ordered, its bytes, its number and until, how many bytes were taken, its number in its stream. -/
structure IT where
  s : Int
  o : Bool
  B : List Int
  id : Int
  un : Int
  at_ : Nat
  ssn : Int
/-- A queue. -/
structure QS where
  L : List IT
  many : Int
  room : Int
  used : Int
  ssn : List Int
def cIT (bv : Value) (x : IT) : List Value := [.int .u16 x.s, .bool x.o, bv, .int .i64 x.id, .int .i64 x.un, .int .i64 (x.at_ : Int), .int .u16 x.ssn]
def bytes (B : List Int) : Prop := ∀ x, x ∈ B → 0 ≤ x ∧ x < 256
structure IT.ok (x : IT) (k : Nat) : Prop where
  s0 : 0 ≤ x.s
  s1 : x.s < (k : Int)
  b0 : 1 ≤ x.B.length
  b1 : x.B.length ≤ 1048576
  a1 : x.at_ < x.B.length
  i0 : 0 ≤ x.id
  i1 : x.id ≤ 1000000
  u0 : 0 ≤ x.un
  u1 : x.un ≤ 9223372036854775807
  n0 : 0 ≤ x.ssn
  n1 : x.ssn < 65536
  by_ : bytes x.B
structure QS.ok (S : QS) (n : Nat) : Prop where
  l : S.L.length ≤ n
  m0 : 0 ≤ S.many
  m1 : S.many ≤ (n : Int)
  r0 : 1 ≤ S.room
  r1 : S.room ≤ 1048576
  u0 : 0 ≤ S.used
  u1 : S.used ≤ S.room
  k0 : 1 ≤ S.ssn.length
  k1 : S.ssn.length ≤ 16
  ks : ∀ x, x ∈ S.ssn → 0 ≤ x ∧ x < 65536
  it : ∀ x, x ∈ S.L → x.ok S.ssn.length
def cN (x : Int) : List Value := [.int .u16 x]
theorem cN_len (x : Int) : (cN x).length = 1 := rfl
def cP (g : Nat) : List Value := [.pointer (some ⟨g, 0, none⟩)]
theorem cP_len (g : Nat) : (cP g).length = 1 := rfl
theorem cP_one (g : Nat) : ∀ u, u ∈ cP g → u.oneCell' = true := by intro u hu; simp [cP] at hu; subst hu; rfl
/-- An item's block, its bytes' slice, the message. -/
abbrev ZT := Nat × Value × IT
def zfoot (Z : List ZT) : List Nat := Z.flatMap (fun z => z.1 :: z.2.1.ownBlock.toList)
def foot (b : Nat) (v sv : Value) (Z : List ZT) : List Nat := b :: (v.ownBlock.toList ++ (sv.ownBlock.toList ++ zfoot Z))
def itemIs (w : World) (z : ZT) : Prop := obj w z.1 69 (cIT z.2.1 z.2.2) ∧ w.ownsRow 0 5 1 z.2.1 z.2.2.B.length (flat cB z.2.2.B)
/-- Block b is a queue; F: its blocks. -/
def outIs (w : World) (b : Nat) (F : List Nat) (S : QS) : Prop :=
  ∃ v sv Z, F = foot b v sv Z ∧ obj w b 65 [v, .int .i64 S.many, .int .i64 S.room, .int .i64 S.used, sv] ∧ offRow w 0 67 1 v Z.length (flat cP (Z.map (·.1))) ∧
    w.ownsRow 0 22 1 sv S.ssn.length (flat cN S.ssn) ∧ Z.map (·.2.2) = S.L ∧ (∀ z, z ∈ Z → itemIs w z) ∧ (Z.map (·.1)).Nodup
theorem mem_zfoot {Z : List ZT} {k : Nat} : k ∈ zfoot Z ↔ ∃ z, z ∈ Z ∧ (k = z.1 ∨ z.2.1.ownBlock = some k) := by
  unfold zfoot
  simp [List.mem_flatMap]
theorem itemIs.past {w w' : World} {z : ZT} {L : List Nat} (h : itemIs w z) (t : turned w w' L) (h1 : z.1 ∉ L) (h2 : ∀ k, z.2.1.ownBlock = some k → k ∉ L) : itemIs w' z := ⟨h.1.past t h1, row_past h.2 t h2⟩
theorem outIs.past {w w' : World} {b : Nat} {F L : List Nat} {S : QS} (h : outIs w b F S) (t : turned w w' L) (hL : ∀ k, k ∈ F → k ∉ L) : outIs w' b F S := by
  obtain ⟨v, sv, Z, rfl, h1, h2, h3, h4, h5, h6⟩ := h
  refine ⟨v, sv, Z, rfl, h1.past t (hL b (by simp [foot])), h2.past t (fun g e => hL g (by simp [foot, e])), row_past h3 t (fun g e => hL g (by simp [foot, e])), h4, fun z hz => (h5 z hz).past t (hL z.1 ?_) (fun k e => hL k ?_), h6⟩
  · simp only [foot, List.mem_cons, List.mem_append]
    exact .inr (.inr (.inr (mem_zfoot.2 ⟨z, hz, .inl rfl⟩)))
  · simp only [foot, List.mem_cons, List.mem_append]
    exact .inr (.inr (.inr (mem_zfoot.2 ⟨z, hz, .inr e⟩)))
theorem outIs.lt {w : World} {b : Nat} {F : List Nat} {S : QS} (h : outIs w b F S) : ∀ k, k ∈ F → k < w.heap.size := by
  obtain ⟨v, sv, Z, rfl, h1, h2, h3, h4, h5, h6⟩ := h
  intro k hk
  simp only [foot, List.mem_cons, List.mem_append, Option.mem_toList] at hk
  rcases hk with rfl | hk | hk | hk
  · exact h1.lt
  · exact (h2.lt k hk).2
  · exact (h3.lt k hk).2
  · obtain ⟨z, hz, rfl | e⟩ := mem_zfoot.1 hk
    · exact (h5 z hz).1.lt
    · exact ((h5 z hz).2.lt k e).2
theorem outIs.len {w : World} {b : Nat} {F : List Nat} {S : QS} (h : outIs w b F S) : b < w.heap.size := h.lt b (by obtain ⟨v, sv, Z, rfl, _⟩ := h; simp [foot])
theorem outIs.drewN {w : World} {b : Nat} {F : List Nat} {S : QS} (h : outIs w b F S) (n : Nat) : outIs (w.drewN n) b F S := h.past (turned_drewN w n []) (by simp)
theorem flatP_at (G : List Nat) (i : Nat) (h : i < G.length) : (flat cP G)[i]? = some (.pointer (some ⟨G[i]'h, 0, none⟩)) := by
  have e := flat_at cP_len G i h 0 (by omega)
  rw [Nat.mul_one, Nat.add_zero] at e
  exact e
theorem flatN_at (G : List Int) (i : Nat) (h : i < G.length) : (flat cN G)[i]? = some (.int .u16 (G[i]'h)) := by
  have e := flat_at cN_len G i h 0 (by omega)
  rw [Nat.mul_one, Nat.add_zero] at e
  exact e
def IT.left (x : IT) : Nat := x.B.length - x.at_
def QS.wait (S : QS) : Nat := (S.L.map IT.left).sum
end Go.Proofs.Ytibnjakiagcopaa
