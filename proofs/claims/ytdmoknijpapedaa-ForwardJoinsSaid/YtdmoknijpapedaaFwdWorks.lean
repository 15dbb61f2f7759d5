/- A row is told of: the laws' own sample. No condition. -/
import Derived.Test.YtdmoknijpapedaaFwdMake3
import Derived.Test.YtdmoknijpapedaaFwdCut
namespace Go.Proofs.Ytdmoknijpapedaa
open Go.RowKit Go.Maps Go.Deep
set_option linter.unusedVariables false
set_option linter.unusedSimpArgs false

theorem Lies.lit {w : World} {b : Nat} {t : TypeId} {cs : List Value} {n sz : Nat} (h : obj w b t cs) (hl : cs.length = n * sz) (hn : n ≤ 1000000) : Lies w sz (.slice (some ⟨b, 0, none⟩) n n) n cs :=
  ⟨hl, _, n, rfl, Nat.le_refl _, by omega, fun _ => ⟨b, 0, rfl, h.lt, fun j u hu => by rw [Nat.zero_add]; exact h.cell j hu⟩⟩
def X1 : List PD := [⟨10, 1, 4, false, false, false, none, 0, 0⟩, ⟨11, 0, 0, true, false, false, none, 0, 0⟩, ⟨12, 1, 5, false, false, false, none, 0, 0⟩]
def X2 : List PD := [⟨11, 0, 0, false, false, false, none, 0, 0⟩]
theorem X1_ok : ∀ x, x ∈ X1 → x.ok := by
  intro x hx
  simp [X1] at hx
  rcases hx with rfl | rfl | rfl
  all_goals exact ⟨by decide, by decide, by decide, by decide, by decide, by decide⟩
theorem X2_ok : ∀ x, x ∈ X2 → x.ok := by
  intro x hx
  simp [X2] at hx
  subst hx
  exact ⟨by decide, by decide, by decide, by decide, by decide, by decide⟩
theorem X1_row : isRow 9 X1 := by
  refine ⟨by simp [X1], fun i h => ?_⟩
  match i, h with
  | 0, _ => rfl
  | 1, _ => rfl
  | 2, _ => rfl
theorem X2_row : ¬ isRow 9 X2 := by
  intro h
  have h1 : (11 : Int) = (9 + 1 + 0) % 4294967296 := h.2 0 (by decide)
  omega
theorem X1_told : told X1 = [(1, 5)] := by decide
theorem X1_last : lastT X1 = 12 := rfl

set_option maxRecDepth 100000 in
set_option maxHeartbeats 8000000 in
theorem works_any (w : World) :
    Calls Try.prog 8 #[] w fun e w' => e = .returned (.bool true) ∧ turned w w' [] := by
  have t0 : turned w (w.alloc (.cells (flat cPD X1).toArray 34)) [] := turned_alloc (turned_refl w []) _
  have L0 : LiesD (w.alloc (.cells (flat cPD X1).toArray 34)) (.slice (some ⟨w.heap.size, 0, none⟩) 3 3) X1 := ⟨Lies.lit (obj.new w 34 (flat cPD X1)) rfl (by omega), X1_ok⟩
  have M0 := make_row 9 _ X1 _ (by omega) L0 (by decide) X1_row
  have HM0 := Lib.hid M0
  have T0 := Lib.hid t0
  clear t0 L0 M0
  go_enter Try.func8, Try.ntmps8
  go_wp2_with fail
  refine HM0.out.mono ?_
  rintro e w1 ⟨sv, rfl, ho, t1⟩
  rw [X1_told] at ho
  rw [X1_last]
  obtain ⟨sa, sc, rfl, hs1, hs2, hsa⟩ := row_form ho
  obtain ⟨g, rfl⟩ := hsa (by simp)
  simp only [List.length_cons, List.length_nil, Nat.zero_add] at ho hs1 ⊢
  have T1 := Lib.hid (turned_trans T0.out t1)
  have HO := Lib.hid (Lies.row ho)
  clear ho t1 hsa
  have oF := obj.new w1 27 [.int .u32 12, .slice (some ⟨g, 0, none⟩) 1 sc]
  have L2 : LiesD ((w1.alloc (.cells #[.int .u32 12, .slice (some ⟨g, 0, none⟩) 1 sc] 27)).alloc (.cells (flat cPD X2).toArray 34)) (.slice (some ⟨w1.heap.size + 1, 0, none⟩) 1 1) X2 :=
    ⟨Lies.lit (by have := obj.new (w1.alloc (.cells #[.int .u32 12, .slice (some ⟨g, 0, none⟩) 1 sc] 27)) 34 (flat cPD X2); simpa using this) rfl (by omega), X2_ok⟩
  have M2 := make_no 9 _ X2 _ (by omega) L2 (by decide) X2_row
  have HM2 := Lib.hid M2
  have OF := Lib.hid (oF.alloc (.cells (flat cPD X2).toArray 34))
  have tf := turned_alloc (turned_alloc (turned_refl w1 []) (.cells #[.int .u32 12, .slice (some ⟨g, 0, none⟩) 1 sc] 27)) (.cells (flat cPD X2).toArray 34)
  have TF := Lib.hid tf
  clear L2 M2 oF tf
  go_wp2_with fail
  refine HM2.out.mono ?_
  rintro e w2 ⟨rfl, t2⟩
  unfold noRow
  have O2 := (OF.out.past t2 (by simp)).alloc (.cells #[.int .u32 0, .slice none 0 0] 27)
  have T2 := Lib.hid (turned_trans TF.out t2)
  have L2 := ((HO.out.none_ (turned_trans TF.out t2)).none_ (turned_alloc (turned_refl w2 []) (.cells #[.int .u32 0, .slice none 0 0] 27)))
  have T3 := Lib.hid (turned_alloc (turned_trans (turned_trans T1.out TF.out) t2) (.cells #[.int .u32 0, .slice none 0 0] 27))
  clear t2
  have HL2 := Lib.hid L2
  have HO2 := Lib.hid O2
  have q0 := O2.cell 0 rfl
  have q1 := O2.cell 1 rfl
  obtain ⟨_, a', cap', e, _, _, hcell⟩ := L2
  cases e
  obtain ⟨g', off', e, _, hc⟩ := hcell (by omega)
  cases e
  have s0 := hc 0 _ rfl
  have s1 := hc 1 _ rfl
  simp only [Nat.zero_add] at s0 s1
  have eq := eqlSk 1 5 1 5
  simp only [and_self, decide_true] at eq
  have gd := gdSk
  clear hc O2 hcell
  go_wp2_with fail
  generalize hW3 : w2.alloc (.cells #[.int .u32 0, .slice none 0 0] 27) = w3 at T3 HL2 HO2 q0 q1 s0 s1 ⊢
  clear hW3
  refine (size_any 12 _ 1 sc w3 (by omega)).mono ?_
  rintro e w4 ⟨rfl, g4⟩
  have t4 := turned_none (L := []) g4
  have O4 := Lib.hid (HO2.out.past t4 (by simp))
  have L4 := Lib.hid (HL2.out.none_ t4)
  have T4 := Lib.hid (turned_trans T3.out t4)
  have q0 := O4.out.cell 0 rfl
  have q1 := O4.out.cell 1 rfl
  clear g4 t4
  go_wp2_with fail
  refine (cut_any 12 7 _ [(1, 5)] w4 L4.out (by decide) (by omega)).mono ?_
  rintro e w5 ⟨v5, rfl, h5, t5⟩
  obtain ⟨a5, c5, rfl, _⟩ := row_form h5
  rw [show cutN [((1 : Int), (5 : Int))].length 7 = 0 by decide] at *
  have O5 := Lib.hid (O4.out.past t5 (by simp))
  have T5 := Lib.hid (turned_trans T4.out t5)
  have q0 := O5.out.cell 0 rfl
  have q1 := O5.out.cell 1 rfl
  clear h5 t5
  go_wp2_with fail
  refine (over_any 12 12 _ w5).mono ?_
  rintro e w6 ⟨rfl, g6⟩
  rw [show ovr 12 12 = true by decide]
  have t6 := turned_none (L := []) g6
  have O6 := Lib.hid (O5.out.past t6 (by simp))
  have T6 := Lib.hid (turned_trans T5.out t6)
  have q0 := O6.out.cell 0 rfl
  have q1 := O6.out.cell 1 rfl
  clear g6 t6
  go_wp2_with fail
  refine (over_any 12 13 _ w6).mono ?_
  rintro e w7 ⟨rfl, g7⟩
  rw [show ovr 13 12 = false by decide]
  have T7 := Lib.hid (turned_trans T6.out (turned_none (L := []) g7))
  clear g7
  go_wp2
  go_ret
  exact ⟨rfl, T7.out⟩
end Go.Proofs.Ytdmoknijpapedaa
