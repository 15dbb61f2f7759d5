/- The anchor of chapter 17. No condition. -/
import Derived.Test.YtcfpgeceenkheaaFragUse
namespace Go.Proofs.Ytcfpgeceenkheaa
open Go.RowKit Go.Deep
set_option linter.unusedVariables false
set_option linter.unusedSimpArgs false

theorem Lies.lit {w : World} {b : Nat} {t : TypeId} {cs : List Value} {n sz : Nat} (h : obj w b t cs) (hl : cs.length = n * sz) (hn : n ≤ 1000000) : Lies w sz (.slice (some ⟨b, 0, none⟩) n n) n cs :=
  ⟨hl, _, n, rfl, Nat.le_refl _, by omega, fun _ => ⟨b, 0, rfl, h.lt, fun j u hu => by rw [Nat.zero_add]; exact h.cell j hu⟩⟩
theorem cut5 (w : World) (b : Nat) (h : LiesB w (.slice (some ⟨b, 0, none⟩) 5 5) [1, 2, 3, 4, 5]) :
    Calls Try.prog 13 #[.agg #[.int .u16 7, .bool true, .slice (some ⟨b, 0, none⟩) 5 5], .int .u16 9, .int .i64 2] w (CutGood w 7 9 false [1, 2, 3, 4, 5] 2 3) :=
  fcut_use 7 true 9 (.slice (some ⟨b, 0, none⟩) 5 5) [1, 2, 3, 4, 5] 2 w h (by decide) (by decide) (by decide) (by decide) (by decide) (by decide)
set_option maxRecDepth 100000 in
set_option maxHeartbeats 4000000 in
theorem works17 (w : World) : Calls Try.prog 11 #[] w fun e w' => e = .returned (.bool true) ∧ turned w w' [] := by
  have hb5 : bytes [1, 2, 3, 4, 5] := by intro x hx; simp at hx; omega
  have tt : turned w ((w.alloc (.cells (flat cB [1, 2, 3, 4, 5]).toArray 5)).alloc (.cells #[.int .u16 7, .bool true, .slice (some ⟨w.heap.size, 0, none⟩) 5 5] 25)) [] := turned_alloc (turned_alloc (turned_refl w []) _) _
  have oB := (obj.new w 5 (flat cB [1, 2, 3, 4, 5])).alloc (.cells #[.int .u16 7, .bool true, .slice (some ⟨w.heap.size, 0, none⟩) 5 5] 25)
  have oM := obj.new (w.alloc (.cells (flat cB [1, 2, 3, 4, 5]).toArray 5)) 25 [.int .u16 7, .bool true, .slice (some ⟨w.heap.size, 0, none⟩) 5 5]
  rw [World.size_alloc] at oM
  have LB : LiesB ((w.alloc (.cells (flat cB [1, 2, 3, 4, 5]).toArray 5)).alloc (.cells #[.int .u16 7, .bool true, .slice (some ⟨w.heap.size, 0, none⟩) 5 5] 25)) (.slice (some ⟨w.heap.size, 0, none⟩) 5 5) [1, 2, 3, 4, 5] := ⟨Lies.lit oB rfl (by omega), hb5⟩
  have HC := Lib.hid (cut5 _ _ LB)
  have HLB := Lib.hid LB
  have HOM := Lib.hid oM
  have HT := Lib.hid tt
  clear tt oB oM LB
  go_enter Try.func11, Try.ntmps11
  go_wp2_with (fail)
  refine HC.out.mono ?_
  rintro e w3 ⟨g, gc, X, rfl, hgc, hgc2, hmade, hlies, hsh, hl, hwh, hbn, t3⟩
  have HX := Lib.hid hl
  clear hl
  have h0X : 0 < X.length := by rw [HX.out]; omega
  have h1X : 1 < X.length := by rw [HX.out]; omega
  have h2X : 2 < X.length := by rw [HX.out]; omega
  have e1 := (shape_at hsh 0 h0X rfl)
  have e2 := (shape_at hsh 1 h1X rfl)
  have e3 := (shape_at hsh 2 h2X rfl)
  have b3 := (hbn 2 h2X).1
  have HT3 := Lib.hid (turned_trans HT.out t3)
  have HOM3 := Lib.hid (HOM.out.past t3 (by simp))
  have HB3 := Lib.hid (HLB.out.none_ t3)
  have HL3 := Lib.hid hlies
  have HJ := Lib.hid (show Calls Try.prog 20 #[.slice (some ⟨g, 0, none⟩) 3 gc] w3 fun e w' => ∃ a c, e = .returned (.tuple #[.agg #[.int .u16 7, .bool true, .slice a 5 c], .bool true]) ∧ w'.ownsRow w3.heap.size 5 1 (.slice a 5 c) 5 (flat cB [1, 2, 3, 4, 5]) ∧ turned w3 w' [] from fjoin_yes _ X _ w3 hlies (by rw [HX.out]; omega) (by decide) hwh 7 false h0X e1.2.1 e1.2.2.2.1)
  have E1 := Lib.hid e1
  have E2 := Lib.hid e2
  have E3 := Lib.hid e3
  have E4 := Lib.hid b3
  clear hmade hlies hsh hwh hbn t3 e1 e2 e3 b3 HT HC HOM HLB
  go_wp2_with (fail)
  refine HJ.out.mono ?_
  rintro e w4 ⟨ja, jc, rfl, jr, t4⟩
  have tb := turned_alloc (turned_refl w4 []) (.cells #[.int .u16 7, .bool true, .slice ja 5 jc] 25)
  have HO4 := Lib.hid (HOM3.out.past t4 (by simp))
  have ho4 := HO4.out.lt
  have HM4 := Lib.hid (obj.new w4 25 [.int .u16 7, .bool true, .slice ja 5 jc])
  have HB4 := Lib.hid ((HB3.out.none_ t4).none_ tb)
  have HJ4 := Lib.hid (show LiesB _ (.slice ja 5 jc) [1, 2, 3, 4, 5] from ⟨(Lies.row jr).none_ tb, hb5⟩)
  have HL4 := Lib.hid (HL3.out.none_ t4)
  have hg4 : g < w4.heap.size := by
    obtain ⟨b9, off9, e9, hg4, _⟩ := HL4.out.1.cells 0 h0X
    simp only [Option.some.injEq, Addr.mk.injEq, and_true] at e9
    rw [e9.1]; exact hg4
  have HT4 := Lib.hid (turned_trans HT3.out (turned_trans t4 tb))
  have m0 := HO4.out.cell 0 rfl
  have m1 := HO4.out.cell 1 rfl
  have m2 := HO4.out.cell 2 rfl
  obtain ⟨_, _, _, _, x4, _, _⟩ := piece_cells HL4.out.1 0 h0X rfl
  obtain ⟨_, _, y2, _, _, _, _⟩ := piece_cells HL4.out.1 1 h1X rfl
  obtain ⟨_, _, _, _, _, z5, z6⟩ := piece_cells HL4.out.1 2 h2X rfl
  rw [E1.out.2.2.2.2.1] at x4
  rw [E2.out.2.2.1] at y2
  rw [E3.out.2.2.2.2.2] at z5
  rw [E4.out, show pieceLen [(1 : Int), 2, 3, 4, 5].length 2 2 = 1 from rfl] at z6
  rw [HX.out] at z5
  simp at x4 y2 z5 z6
  clear t4 tb jr E1 E2 E3 E4 HJ HOM3 HB3 HL3 HT3
  generalize X[2].ba = za at z6
  generalize X[2].bc = zc at z6
  go_wp2_with (fail)
  refine (sameMsg_yes 7 true _ _ [1, 2, 3, 4, 5] _ HB4.out HJ4.out (by decide)).mono ?_
  rintro e w5 ⟨rfl, t5⟩
  go_wp2
  go_ret
  exact ⟨rfl, turned_trans HT4.out t5⟩
end Go.Proofs.Ytcfpgeceenkheaa
