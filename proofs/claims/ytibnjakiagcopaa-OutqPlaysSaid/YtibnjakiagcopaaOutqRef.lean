/- The document's queue: its object; New, Used, Free. Conditions: the queue lies in memory. -/
import Derived.Test.YtibnjakiagcopaaOutqAct
namespace Go.Proofs.Ytibnjakiagcopaa
open Go.RowKit Go.Deep
set_option linter.unusedVariables false
set_option linter.unusedSimpArgs false

/-- An item of the document's list: its bytes' slice, the message. -/
abbrev YT := Value × IT
def cY (z : YT) : List Value := cIT z.1 z.2
theorem cY_len (z : YT) : (cY z).length = 7 := rfl
def rfoot (b : Nat) (v sv : Value) (Z : List YT) : List Nat := b :: (v.ownBlock.toList ++ (sv.ownBlock.toList ++ Z.flatMap (fun z => z.1.ownBlock.toList)))
def byteIs (w : World) (z : YT) : Prop := w.ownsRow 0 5 1 z.1 z.2.B.length (flat cB z.2.B)
/-- Block b is the document's queue; G: its blocks. -/
def refIs (w : World) (b : Nat) (G : List Nat) (S : QS) : Prop :=
  ∃ v sv Z, G = rfoot b v sv Z ∧ obj w b 76 [v, .int .i64 S.many, .int .i64 S.room, .int .i64 S.used, sv] ∧ offRow w 0 78 7 v Z.length (flat cY Z) ∧
    w.ownsRow 0 22 1 sv S.ssn.length (flat cN S.ssn) ∧ Z.map (·.2) = S.L ∧ ∀ z, z ∈ Z → byteIs w z
theorem refIs.past {w w' : World} {b : Nat} {G L : List Nat} {S : QS} (h : refIs w b G S) (t : turned w w' L) (hL : ∀ k, k ∈ G → k ∉ L) : refIs w' b G S := by
  obtain ⟨v, sv, Z, rfl, h1, h2, h3, h4, h5⟩ := h
  refine ⟨v, sv, Z, rfl, h1.past t (hL b (by simp [rfoot])), h2.past t (fun g e => hL g (by simp [rfoot, e])), row_past h3 t (fun g e => hL g (by simp [rfoot, e])), h4, fun z hz => row_past (h5 z hz) t (fun k e => hL k ?_)⟩
  simp only [rfoot, List.mem_cons, List.mem_append, List.mem_flatMap, Option.mem_toList]
  exact .inr (.inr (.inr ⟨z, hz, e⟩))
theorem refIs.lt {w : World} {b : Nat} {G : List Nat} {S : QS} (h : refIs w b G S) : ∀ k, k ∈ G → k < w.heap.size := by
  obtain ⟨v, sv, Z, rfl, h1, h2, h3, h4, h5⟩ := h
  intro k hk
  simp only [rfoot, List.mem_cons, List.mem_append, List.mem_flatMap, Option.mem_toList] at hk
  rcases hk with rfl | hk | hk | ⟨z, hz, hk⟩
  · exact h1.lt
  · exact (h2.lt k hk).2
  · exact (h3.lt k hk).2
  · exact ((h5 z hz).lt k hk).2
theorem refIs.used {w : World} {b : Nat} {G : List Nat} {S : QS} (h : refIs w b G S) : ∃ v sv, obj w b 76 [v, .int .i64 S.many, .int .i64 S.room, .int .i64 S.used, sv] := by
  obtain ⟨v, sv, Z, _, h, _⟩ := h; exact ⟨v, sv, h⟩
set_option maxHeartbeats 1000000 in
theorem rused (b : Nat) (G : List Nat) (S : QS) (w : World) (h : refIs w b G S) :
    Calls Try.prog 20 #[.pointer (some ⟨b, 0, none⟩)] w fun e w' => e = .returned (.int .i64 S.used) ∧ w = w' := by
  obtain ⟨v, sv, ho⟩ := h.used
  have c3 := ho.cell 3 rfl
  clear ho h
  go_enter Try.func20, Try.ntmps20
  go_wp2
  go_ret
  exact ⟨rfl, rfl⟩
/-- The queue's own number is written. -/
theorem refIs.setUsed {w : World} {b : Nat} {G : List Nat} {S : QS} (h : refIs w b G S) (u V : Int) (hV : V = u) : refIs (w.setCell ⟨b, 3, none⟩ (.int .i64 V)) b G { S with used := u } ∧ turned w (w.setCell ⟨b, 3, none⟩ (.int .i64 V)) G := by
  subst hV
  obtain ⟨v, sv, Z, rfl, h1, h2, h3, h4, h5⟩ := h
  have t : turned w (w.setCell ⟨b, 3, none⟩ (.int .i64 V)) [b] := turned_set (turned_refl _ _) (List.mem_singleton.2 rfl) _
  refine ⟨⟨v, sv, Z, rfl, h1.set 3 _, h2.past t (fun g e k => h2.ne h1 (by decide) (by rw [e, List.mem_singleton.1 k])), row_past h3 t (fun g e k => row_ne h3 h1 (by decide) (by rw [e, List.mem_singleton.1 k])), h4, fun z hz => row_past (h5 z hz) t (fun g e k => row_ne (h5 z hz) h1 (by decide) (by rw [e, List.mem_singleton.1 k]))⟩, turned_more t (fun k hk => by rw [List.mem_singleton.1 hk]; simp [rfoot])⟩
set_option maxHeartbeats 2000000 in
theorem rfree (b : Nat) (G : List Nat) (S : QS) (k : Nat) (n : Int) (w : World) (h : refIs w b G S) (hk : S.ok k) (hn : n ≤ 9223372036854775807) :
    Calls Try.prog 35 #[.pointer (some ⟨b, 0, none⟩), .int .i64 n] w fun e w' => e = .returned (.tuple #[]) ∧ refIs w' b G { S with used := freed S.used n } ∧ turned w w' G := by
  obtain ⟨v, sv, ho⟩ := h.used
  have c3 := ho.cell 3 rfl
  have f3 := ho.free 3
  have u0 := hk.u0
  have u1 := hk.u1
  have r1 := hk.r1
  have s1 : IntKind.i64.wrap (S.used - max n 0) = S.used - max n 0 := IntWalk.i64_in _ (by omega)
  have s2 : 0 ≤ n → IntKind.i64.wrap (S.used - n) = S.used - n := fun h => IntWalk.i64_in _ (by omega)
  have HS := Lib.hid (fun V hV => h.setUsed (freed S.used n) V hV)
  have S2 := Lib.hid s2
  clear ho h hk s2
  by_cases h0 : n < 0
  · have hm : max n 0 = 0 := by omega
    have hq : IntKind.i64.wrap S.used = S.used := IntWalk.i64_in _ (by omega)
    go_enter Try.func35, Try.ntmps35
    go_wp2_with fail
    go_end0
    refine ⟨rfl, HS.out _ ?_⟩
    unfold freed
    omega
  · have s3 := S2.out (by omega)
    go_enter Try.func35, Try.ntmps35
    go_wp2_with fail
    all_goals go_end0
    all_goals refine ⟨rfl, HS.out _ ?_⟩
    all_goals (unfold freed; omega)
set_option maxHeartbeats 2000000 in
theorem rnew (k : Nat) (r : Int) (hk : 1 ≤ k ∧ k ≤ 16) (hr : 1 ≤ r ∧ r ≤ 1048576) (w : World) :
    Calls Try.prog 17 #[.int .i64 (k : Int), .int .i64 r] w fun e w' => ∃ g G, e = .returned (.tuple #[.pointer (some ⟨g, 0, none⟩), .int .i64 0]) ∧ refIs w' g G (newQ k r) ∧ (∀ x, x ∈ G → w.heap.size ≤ x) ∧ turned w w' [] := by
  obtain ⟨k1, k2⟩ := hk
  obtain ⟨r1, r2⟩ := hr
  obtain ⟨i0, hi0, hz0, hz1, hz2⟩ := info_parts infoN
  have hmk : ∀ w : World, (Instr.makeSlice 61 (.int .i64 (k : Int)) (.int .i64 (k : Int))).run Try.prog w = .ok (.slice (some ⟨w.heap.size, 0, none⟩) k k) (w.alloc (.cells (madeCells #[.int .u16 0] k) 22)) := fun w => by
    have := run_makeSlice (P := Try.prog) w 61 22 i0 (.int .u16 0) Try.underlying61 hi0 hz0 .i64 .i64 (k : Int) (k : Int) (by omega) (Int.le_refl _) (by rw [hz1]; omega) (by rw [hz2]; omega) (by omega)
    simpa [hz1, Value.cells] using this
  have hmo : (w.alloc (.cells (madeCells #[.int .u16 0] k) 22)).ownsRow w.heap.size 22 1 (.slice (some ⟨w.heap.size, 0, none⟩) k k) k (flat cN (List.replicate k 0)) := by
    have h := World.ownsRow_lit (base := w.heap.size) (e := 22) (size := 1) w (madeCells #[.int .u16 0] k) k (Nat.le_refl _) (by unfold maxLen; omega) (by rw [size_madeCells]; simp)
    have e : (madeCells #[.int .u16 0] k).toList = flat cN (List.replicate k 0) := by
      simp [madeCells, flat, cN, Nat.mod_one]
      rw [List.eq_replicate_iff]
      exact ⟨by simp, fun b hb => by simp at hb; exact hb.2.symm⟩
    rw [e] at h
    exact h
  have HMO := Lib.hid hmo
  clear hmo hi0 hz0 hz1 hz2
  go_enter Try.func17, Try.ntmps17
  go_wp2
  go_ret2
  have T := turned_alloc (turned_alloc (turned_refl w []) (.cells (madeCells #[.int .u16 0] k) 22)) (.cells #[.slice none 0 0, .int .i64 0, .int .i64 r, .int .i64 0, .slice (some ⟨w.heap.size, 0, none⟩) k k] 76)
  have hN := obj.new (w.alloc (.cells (madeCells #[.int .u16 0] k) 22)) 76 [.slice none 0 0, .int .i64 0, .int .i64 r, .int .i64 0, .slice (some ⟨w.heap.size, 0, none⟩) k k]
  have hsz : (w.alloc (.cells (madeCells #[.int .u16 0] k) 22)).heap.size = w.heap.size + 1 := by simp
  rw [hsz] at hN
  refine ⟨_, _, rfl, ⟨.slice none 0 0, .slice (some ⟨w.heap.size, 0, none⟩) k k, [], rfl, hN, offRow.nil _ _ _ _, ?_, rfl, by simp⟩, ?_, T⟩
  · simp only [newQ, List.length_replicate]
    exact row_base0 (row_past (L := []) HMO.out (turned_alloc (turned_refl _ _) _) (by simp)) (Nat.zero_le _)
  · intro x hx
    simp [rfoot, Value.ownBlock] at hx
    omega
end Go.Proofs.Ytibnjakiagcopaa
