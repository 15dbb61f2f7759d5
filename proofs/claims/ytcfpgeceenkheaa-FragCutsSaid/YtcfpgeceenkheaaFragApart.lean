/- Apart: rows that lie in blocks of their own, with all their room, know nothing of one another. Conditions: they lie so. -/
import Derived.Test.YtcfpgeceenkheaaFragRoomy
import Derived.Laws.BytesArg
import Derived.Lib.SlBytesConst
namespace Go.Proofs.Ytcfpgeceenkheaa
open Go.RowKit Go.Deep
set_option linter.unusedVariables false
set_option linter.unusedSimpArgs false

/-- Bytes in memory, as a text. -/
theorem conv_lies {w : World} {v : Value} {B : List Int} (h : LiesB w v B) : (convert 23 9 v).run Try.prog w = .ok (.string (strOfNums B)) w := by
  obtain ⟨a, cap, rfl, h1, h2⟩ := h.1.form
  rcases Nat.eq_zero_or_pos B.length with h0 | h0
  · have hB : B = [] := List.eq_nil_of_length_eq_zero h0
    subst hB
    cases a with
    | none =>
      rw [run_convert_bytes_nil w 23 5 Try.underlying23 Try.underlying5 _ _ 9 Try.underlying9]
      rfl
    | some ad =>
      rw [run_convert_bytes_string w 23 9 5 _ _ _ Try.underlying23 Try.underlying5 Try.underlying9, run_bytesToString w ad _ cap [] (by simp [loadCells, loadCellsFrom])]
      rfl
  · obtain ⟨b, off, rfl, hb, _⟩ := h.cell 0 h0
    refine run_convert_bytes_arg w 23 5 Try.underlying23 Try.underlying5 b off B.length cap B rfl (fun i hi => ?_) 9 Try.underlying9
    obtain ⟨b', off', e, _, hc⟩ := h.cell i hi
    cases e
    rw [hc]
    simp [List.getD, hi]
/-- A row: its block, how many bytes it has, and has room for, and all bytes of the block. -/
structure PT where
  g : Nat
  n : Nat
  c : Nat
  G : List Int
def cPT (x : PT) : List Value := [.slice (some ⟨x.g, 0, none⟩) x.n x.c]
theorem cPT_len (x : PT) : (cPT x).length = 1 := rfl
theorem cPT_one (x : PT) : ∀ u, u ∈ cPT x → u.oneCell' = true := by intro u hu; simp [cPT] at hu; subst hu; rfl
structure PT.ok (w : World) (x : PT) : Prop where
  o : obj w x.g 5 (flat cB x.G)
  b : ∀ z, z ∈ x.G → 0 ≤ z ∧ z < 256
  n : x.n ≤ x.c
  c : x.c ≤ x.G.length
  l : x.c ≤ 9223372036854775807
def PT.B (x : PT) : List Int := x.G.take x.n
theorem PT.ok.lies {w : World} {x : PT} (h : x.ok w) : LiesB w (.slice (some ⟨x.g, 0, none⟩) x.n x.c) x.B := h.o.liesB (Nat.le_trans h.n h.c) h.n h.l h.b
theorem PT.ok.past {w w' : World} {x : PT} {L : List Nat} (h : x.ok w) (t : turned w w' L) (hL : x.g ∉ L) : x.ok w' := ⟨h.o.past t hL, h.b, h.n, h.c, h.l⟩
/-- The first k bytes turned. -/
def flp (G : List Int) (k : Nat) : List Int := (G.take k).map (fun z => 255 - z) ++ G.drop k
theorem flp_len (G : List Int) (k : Nat) : (flp G k).length = G.length := by simp [flp]; omega
theorem flp_zero (G : List Int) : flp G 0 = G := rfl
theorem flp_cons (z : Int) (G : List Int) (k : Nat) : flp (z :: G) (k + 1) = (255 - z) :: flp G k := rfl
theorem flp_at (G : List Int) (k : Nat) (h : k < G.length) : (flp G k)[k]'(by rw [flp_len]; exact h) = G[k]'h := by
  unfold flp
  rw [List.getElem_append_right (by simp; omega)]
  simp [show min k G.length = k by omega]
theorem flp_set (G : List Int) (k : Nat) (h : k < G.length) : (flp G k).set k (255 - G[k]'h) = flp G (k + 1) := by
  induction G generalizing k with
  | nil => simp at h
  | cons z G ih =>
    cases k with
    | zero => rfl
    | succ k =>
      rw [flp_cons, flp_cons, List.set_cons_succ, List.getElem_cons_succ, ih k (by simpa using h)]
/-- Of c turned bytes the first k turned back. -/
def flq (G : List Int) (c k : Nat) : List Int := G.take k ++ flp (G.drop k) (c - k)
theorem flq_len (G : List Int) (c k : Nat) : (flq G c k).length = G.length := by simp [flq, flp_len]; omega
theorem flq_zero (G : List Int) (c : Nat) : flq G c 0 = flp G c := rfl
theorem flq_end (G : List Int) (c : Nat) : flq G c c = G := by unfold flq; rw [Nat.sub_self, flp_zero, List.take_append_drop]
theorem flq_at (G : List Int) (c k : Nat) (h : k < G.length) (hk : k < c) : (flq G c k)[k]'(by rw [flq_len]; exact h) = 255 - G[k]'h := by
  unfold flq
  rw [List.getElem_append_right (by simp; omega)]
  have e : G.drop k = G[k]'h :: G.drop (k + 1) := List.drop_eq_getElem_cons h
  have e2 : c - k = (c - (k + 1)) + 1 := by omega
  simp only [List.length_take, show k - min k G.length = 0 by omega, e, e2, flp_cons, List.getElem_cons_zero]
theorem flq_set (G : List Int) (c k : Nat) (h : k < G.length) (hk : k < c) : (flq G c k).set k (G[k]'h) = flq G c (k + 1) := by
  have e : G.drop k = G[k]'h :: G.drop (k + 1) := List.drop_eq_getElem_cons h
  have e2 : c - k = (c - (k + 1)) + 1 := by omega
  unfold flq
  rw [List.set_append_right _ _ (by simp; omega), List.length_take, show k - min k G.length = 0 by omega, e, e2, flp_cons, List.set_cons_zero, List.take_succ_eq_append_getElem h, List.append_assoc]
  rfl
theorem flp_in {G : List Int} (h : ∀ z, z ∈ G → 0 ≤ z ∧ z < 256) (k : Nat) : ∀ z, z ∈ flp G k → 0 ≤ z ∧ z < 256 := by
  intro z hz
  rcases List.mem_append.1 hz with hz | hz
  · obtain ⟨y, hy, rfl⟩ := List.mem_map.1 hz
    have := h y (List.mem_of_mem_take hy)
    omega
  · exact h z (List.mem_of_mem_drop hz)
theorem not_fin : ∀ n : Fin 256, bits BinOp.xor IntKind.u8 (if IntKind.u8.signed = true then -1 else IntKind.u8.max) ((n.val : Nat) : Int) = 255 - ((n.val : Nat) : Int) := by decide +kernel
theorem not_u8 (z : Int) (h : 0 ≤ z ∧ z < 256) : bits BinOp.xor IntKind.u8 (if IntKind.u8.signed = true then -1 else IntKind.u8.max) z = 255 - z := by
  have := not_fin ⟨z.toNat, by omega⟩
  simp only [Int.toNat_of_nonneg h.1] at this
  exact this
set_option maxHeartbeats 1000000 in
theorem whole_ (x : PT) (w : World) (h : x.ok w) :
    Calls Try.prog 27 #[.slice (some ⟨x.g, 0, none⟩) x.n x.c] w fun e w' => e = .returned (.slice (some ⟨x.g, 0, none⟩) x.c x.c) ∧ w = w' := by
  have h1 : (0 : Int) ≤ (x.c : Int) := by omega
  have h2 := h.n
  go_enter Try.func27, Try.ntmps27
  go_wp2
  go_ret
  exact ⟨rfl, rfl⟩
theorem infoStr : (Try.prog.info? 9).map (fun i => (i.zero, i.size, i.bytes)) = some (some (.string .empty), 1, 16) := by kernel_rfl
def cS (s : ByteArray) : List Value := [.string s]
theorem cS_len (s : ByteArray) : (cS s).length = 1 := rfl
theorem cS_one (s : ByteArray) : ∀ u, u ∈ cS s → u.oneCell' = true := by intro u hu; simp [cS] at hu; subst hu; rfl
end Go.Proofs.Ytcfpgeceenkheaa
