/- The walk of ForwardMakes. No condition. -/
import Derived.Test.YtdmoknijpapedaaFwdRef2
import Derived.Test.YtdmoknijpapedaaFwdWorks
import Derived.Test.YtdmoknijpapedaaFwdOpen
namespace Go.Proofs.Ytdmoknijpapedaa
open Go.ChangeShapes Go.WideShapes Go.RowKit Go.Deep
set_option linter.unusedVariables false
set_option linter.unusedSimpArgs false

theorem infoD : (Try.prog.info? 34).map (fun i => (i.zero, i.size, i.bytes)) = some (some (.agg #[.int .u32 0, .int .u16 0, .int .u16 0, .bool false, .bool false, .bool false, .slice none 0 0]), 7, 40) := by kernel_rfl
/-- What Make leaves. -/
def Out (c : Int) (S : List (Int × Int)) (b : Bool) (w : World) (e : Ending) (w' : World) : Prop :=
  ∃ a cap, e = .returned (.tuple #[.agg #[.int .u32 c, .slice a S.length cap], .bool b]) ∧ Lies w' 2 (.slice a S.length cap) S.length (flat cSk S) ∧ turned w w' []
theorem out_row {w w' : World} {cum : Int} {X : List PD} {e : Ending} (h : Told w cum X e w') : Out (lastT X) (told X) true w e w' := by
  obtain ⟨sv, rfl, h1, h2⟩ := h
  obtain ⟨a, c, rfl, _⟩ := row_form h1
  exact ⟨a, c, rfl, Lies.row h1, h2⟩
theorem out_no {w w' : World} {e : Ending} (h : e = .returned noRow ∧ turned w w' []) : Out 0 [] false w e w' := by
  obtain ⟨rfl, h2⟩ := h
  exact ⟨none, 0, rfl, Lies.nil _ _, h2⟩
theorem make_out (cum : Int) (X : List PD) (hc : 0 ≤ cum ∧ cum < 4294967296) (hX : X.length ≤ 1000) :
    ∃ c S b, (b = true → isRow cum X ∧ c = lastT X ∧ S = told X) ∧ (b = false → ¬ isRow cum X ∧ c = 0 ∧ S = []) ∧
      (∀ w v, LiesD w v X → Calls Try.prog 9 #[.int .u32 cum, v] w (Out c S b w)) := by
  by_cases h : isRow cum X
  · exact ⟨_, _, true, fun _ => ⟨h, rfl, rfl⟩, fun h => (by cases h), fun w v hv => (make_row cum v X w hc hv hX h).mono fun e w' h => out_row h⟩
  · exact ⟨_, _, false, fun h => (by cases h), fun _ => ⟨h, rfl, rfl⟩, fun w v hv => (make_no cum v X w hc hv hX h).mono fun e w' h => out_no h⟩
theorem make_both (cum : Int) (X : List PD) (hc : 0 ≤ cum ∧ cum < 4294967296) (hX : X.length ≤ 1000) :
    ∃ c S b, (∀ w v, LiesD w v X → Calls Try.prog 9 #[.int .u32 cum, v] w (Out c S b w)) ∧
      (∀ w v, LiesD w v X → Calls Try.prog 10 #[.int .u32 cum, v] w (Out c S b w)) := by
  by_cases h : isRow cum X
  · exact ⟨_, _, true, fun w v hv => (make_row cum v X w hc hv hX h).mono fun e w' h => out_row h, fun w v hv => (rmake_row cum v X w hc hv hX h).mono fun e w' h => out_row h⟩
  · exact ⟨_, _, false, fun w v hv => (make_no cum v X w hc hv hX h).mono fun e w' h => out_no h, fun w v hv => (rmake_no cum v X w hc hv hX h).mono fun e w' h => out_no h⟩

set_option maxRecDepth 100000 in
set_option maxHeartbeats 8000000 in
theorem makes_good (W : World) (cum : Int) (v : Value) (X : List PD) (hc : 0 ≤ cum ∧ cum < 4294967296) (h : LiesD W v X) (hX : X.length ≤ 1000) :
    Calls Try.prog 3 #[.int .u32 cum, v] W fun e w' => e = .returned (.bool true) ∧ Below W.heap.size W w' := by
  obtain ⟨c, S, b, hm, hr⟩ := make_both cum X hc hX
  obtain ⟨a, cap, rfl, hc1, hc2⟩ := h.1.form
  have H := Lib.hid h
  have HM := Lib.hid hm
  have HR := Lib.hid hr
  obtain ⟨i0, hi0, hz0, hz1, hz2⟩ := info_parts infoD
  clear h hm hr hc
  go_enter Try.func3, Try.ntmps3
  go_wp2_with (first | (at_builtin; refine wpList_append_lies' _ rfl _ _ 23 rfl W.heap.size 34 i0 _ 7 40 Try.underlying23 hi0 hz0 hz1 hz2 rfl (by decide) _ 0 [] rfl (World.ownsRow_lit W #[] 0 (Nat.le_refl _) (by decide) rfl) _ X.length (flat cPD X) rfl (H.out.1.none_ (turned_alloc (turned_refl W []) _)) (flatPD_one X) (by unfold maxLen; omega) (by omega) (by simp) ?_) | go_in)
  intro v1 w1 ho hg hl
  have t1 : turned W w1 [] := turned_new (turned_alloc (turned_refl W []) _) hg (fun k e => by simp [Value.ownBlock] at e; omega)
  have HI := Lib.hid (show LiesD w1 v1 X from ⟨Lies.row (by simpa using ho), H.out.2⟩)
  have T1 := Lib.hid t1
  clear ho hg hl t1
  obtain ⟨a1, cap1, rfl, hd1, hd2⟩ := HI.out.1.form
  go_wp2_with fail
  refine (HM.out _ _ HI.out).mono ?_
  rintro e w2 ⟨a2, cap2, rfl, l2, t2⟩
  have o2 := obj.new w2 27 [.int .u32 c, .slice a2 S.length cap2]
  have tb := turned_alloc t2 (.cells #[.int .u32 c, .slice a2 S.length cap2] 27)
  have L2 := Lib.hid (l2.none_ (turned_alloc (turned_refl w2 []) (.cells #[.int .u32 c, .slice a2 S.length cap2] 27)))
  have HI2 := Lib.hid (HI.out.none_ tb)
  have T2 := Lib.hid (turned_trans T1.out tb)
  have O2 := Lib.hid o2
  clear l2 t2 o2 tb
  go_wp2_with fail
  refine (HR.out _ _ (H.out.none_ T2.out)).mono ?_
  rintro e w3 ⟨a3, cap3, rfl, l3, t3⟩
  have o3 := obj.new w3 27 [.int .u32 c, .slice a3 S.length cap3]
  have tb := turned_alloc t3 (.cells #[.int .u32 c, .slice a3 S.length cap3] 27)
  have L3 := Lib.hid (l3.none_ (turned_alloc (turned_refl w3 []) (.cells #[.int .u32 c, .slice a3 S.length cap3] 27)))
  have L2' := Lib.hid (L2.out.none_ tb)
  have HI3 := Lib.hid (HI2.out.none_ tb)
  have T3 := Lib.hid (turned_trans T2.out tb)
  have p2 := O2.out.past tb (by simp)
  have q0 := p2.cell 0 rfl
  have q1 := p2.cell 1 rfl
  have hbb : (b != b) = false := by simp
  clear l3 t3 o3 tb p2
  go_wp2_with fail
  refine (same_forward c c _ _ S S _ L2'.out L3.out).mono ?_
  rintro e w4 ⟨rfl, g4⟩
  rw [show (decide (c = c) && decide (S = S)) = true by simp]
  have t4 := turned_none (L := []) g4
  have HI4 := Lib.hid (HI3.out.none_ t4)
  have T4 := Lib.hid (turned_trans T3.out t4)
  clear g4 t4 q0 q1 hbb
  go_wp2
  go_loopw [10] (fun i wr => turned w4 wr [] ∧ ∃ j : Nat, j ≤ X.length ∧ i = .int .i64 (j : Int)) (fun i _ => X.length - (intOf i).toNat)
  case atStart => exact ⟨turned_refl _ _, 0, Nat.zero_le _, rfl⟩
  case round =>
    obtain ⟨tw, j, hj, rfl⟩ := hrel
    have TW := Lib.hid tw
    clear tw
    by_cases hlt : j < X.length
    · obtain ⟨b1, off1, e1, hb1, c0, c1, c2, c3, c4, c5, c6⟩ := (H.out.none_ (turned_trans T4.out TW.out)).cells j hlt
      obtain ⟨b2, off2, e2, hb2, d0, d1, d2, d3, d4, d5, d6⟩ := (HI4.out.none_ TW.out).cells j hlt
      subst e1 e2
      obtain ⟨x, hx⟩ : ∃ x, X[j]'hlt = x := ⟨_, rfl⟩
      rw [hx] at c0 c1 c2 c3 d0 d1 d2 d3
      clear c4 c5 c6 d4 d5 d6 hx
      have k0 : (x.t != x.t) = false := by simp
      have k1 : (x.s != x.s) = false := by simp
      have k2 : (x.n != x.n) = false := by simp
      have k3 : (x.u != x.u) = false := by simp
      go_wp2
      go_quiet (fail)
      go_wp2
      go_roundw
      case rel => exact ⟨turned_drewN' _ TW.out, j + 1, by omega, by go_num⟩
      case measure => simp only [intOf]; omega
    · go_wp2_with (go_at_call 8; refine (works_any _).mono ?_; rintro e w9 ⟨rfl, g9⟩)
      go_ret
      exact ⟨rfl, turned_below (turned_trans (turned_trans T4.out TW.out) g9)⟩
set_option maxHeartbeats 1000000 in
theorem forwardMakes.walk (W : World) (cum : Int) (hw : (Lit.int .u32 cum).wf = true) (v : Value) (X : List PD) (h : LiesD W v X) :
    Calls Try.prog 3 #[.int .u32 cum, v] W fun e w' => e = .returned (.bool true) ∧ Below W.heap.size W w' := by
  by_cases hn : X.length ≤ 1000
  · exact makes_good W cum v X (wf_u32_range hw) h hn
  · obtain ⟨a, cap, rfl, hc1, hc2⟩ := h.1.form
    clear h
    have h2 : 1000 < X.length := by omega
    go_enter Try.func3, Try.ntmps3
    go_wp2_with (go_at_call 8; refine (works_any _).mono ?_; rintro e w9 ⟨rfl, g9⟩)
    go_ret
    exact ⟨rfl, turned_below g9⟩
end Go.Proofs.Ytdmoknijpapedaa
