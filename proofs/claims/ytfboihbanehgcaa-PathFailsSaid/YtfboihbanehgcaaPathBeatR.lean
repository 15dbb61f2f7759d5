/- Beat and Beaten of the path and of its reference. Conditions as in the other methods'. -/
import Derived.Test.YtfboihbanehgcaaPathDo
import Derived.IntWalk
namespace Go.Proofs.Ytfboihbanehgcaa
open Go.RowKit
set_option linter.unusedVariables false
set_option linter.unusedSimpArgs false

set_option maxHeartbeats 400000 in
theorem value_cell_r (v : Int) (b : Nat) (w : World) (c0 : w.cell? ⟨b, 0, none⟩ = some (.int .i64 v)) :
    Calls Try.prog 40 #[.pointer (some ⟨b, 0, none⟩)] w fun e w' => e = .returned (.int .i64 v) ∧ w = w' := by
  go_enter Try.func40, Try.ntmps40
  go_wp2
  go_ret
  exact ⟨rfl, rfl⟩

set_option maxRecDepth 100000 in
set_option maxHeartbeats 400000 in
theorem pbeat_ref_early (x : PS) (now : Int) (hn : now < x.next) (p : PP) (w : World) (h : isRef w p x) :
    Calls Try.prog 48 #[.pointer (some ⟨p.s, 0, none⟩), .int .i64 now] w fun e w' => e = .returned (.bool false) ∧ w = w' := by
  have d4 := h.1.cell 4 rfl
  have H := Lib.hid h
  clear h
  go_enter Try.func48, Try.ntmps48
  go_wp2_with fail
  go_ret
  exact ⟨rfl, rfl⟩

set_option maxRecDepth 100000 in
set_option maxHeartbeats 2000000 in
theorem pbeat_ref_due (x : PS) {q : Int} (hok : x.ok q) (now : Int) (hn : x.next ≤ now) (hn2 : now ≤ 9223372036854775807) (p : PP) (w : World) (h : isRef w p x) :
    Calls Try.prog 48 #[.pointer (some ⟨p.s, 0, none⟩), .int .i64 now] w fun e w' => e = .returned (.bool true) ∧ isRef w' p (x.beat1 now) ∧ turned w w' p.L := by
  have d4 := h.1.cell 4 rfl
  have d6 := h.1.cell 6 rfl
  have f6 := h.1.free 6
  have k5 := hok.2.2.2.2.1
  have HK := Lib.hid hok
  have KF := Lib.hid (pok_failed hok)
  have H := Lib.hid h
  clear h hok
  have hn3 : ¬ now < x.next := by omega
  cases hop : x.opn
  all_goals rw [hop] at d6
  all_goals have HOP := Lib.hid hop
  all_goals clear hop
  all_goals go_enter Try.func48, Try.ntmps48
  all_goals go_wp2_with fail

  · have EF := Lib.hid (show x.failed = x by unfold PS.failed; rw [HOP.out]; rfl)
    have o1 := H.out
    rw [← EF.out] at o1
    obtain ⟨w1, hw1⟩ : ∃ w1 : World, w1 = w := ⟨_, rfl⟩
    rw [← hw1] at o1
    have T1 := Lib.hid (show turned w w1 p.L by rw [hw1]; exact turned_refl _ _)
    have HW1 := Lib.hid hw1
    clear hw1
    have KF2 := KF.out
    generalize hyy : x.failed = y at o1 KF2
    have EY := Lib.hid hyy
    clear EF KF hyy
    have kv := rv_bd KF2.2.2.2.2.2.2.2.2.1
    have kb1 := KF2.2.2.2.2.2.2.1
    have kb2 := KF2.2.2.2.2.2.2.2.1
    have HY := Lib.hid o1
    clear o1 KF2 d4 d6
    have f6 := HY.out.1.free 6
    have g6 := HY.out.1.cell 6 rfl
    skip
    by_cases hm : 2305843009213693952 < now
    · have EM := Lib.hid (show min now 2305843009213693952 = 2305843009213693952 by omega)
      obtain ⟨wd, hwd⟩ : ∃ wd, wd = (World.setCell w ⟨p.s, 6, none⟩ (.bool true)).drew := ⟨_, rfl⟩
      have hy := ((HW1.out ▸ HY.out).setS 6 (.bool true) (y.withOpen true) rfl rfl rfl).drew
      rw [← hwd] at hy
      have T2 := Lib.hid (show turned w wd p.L by rw [hwd]; exact turned_set (turned_refl w p.L) (inS p) _)
      have HWD := Lib.hid hwd
      have HD := Lib.hid hy
      have b0 := hy.1.cell 0 rfl
      have b4 := hy.1.cell 4 rfl
      have b5 : wd.cell? ⟨p.s, 5, none⟩ = some (.int .i64 y.beat) := hy.1.cell 5 rfl
      have bf := hy.1.free 4
      clear hwd hy f6 g6
      go_wp2_with fail
      refine region_tail 14 (by kernel_rfl) (by kernel_rfl) wd HWD.out ?_
      simp only [List.take_succ_cons, List.take_zero, List.drop_succ_cons, List.drop_zero]
      iterate 7 still_step
      still_call (calls_flip (value_ref y.r _ _ HD.out.2.1))
      iterate 6 still_step
      refine wpStill_nil ?_
      go_wp2_with fail
      go_ret
      have W1 : IntKind.i64.wrap (2305843009213693952 + y.r.v) = 2305843009213693952 + y.r.v := IntWalk.i64_in _ (by omega)
      have W2 : IntKind.i64.wrap (2305843009213693952 + y.r.v + y.beat) = 2305843009213693952 + y.r.v + y.beat := IntWalk.i64_in _ (by omega)
      try rw [W1]
      try rw [W2]
      have EV := Lib.hid (show (y.withOpen true).withNext (2305843009213693952 + y.r.v + y.beat) = x.beat1 now by unfold PS.beat1; rw [EY.out, EM.out])
      refine ⟨rfl, (HD.out.setS 4 (.int .i64 (2305843009213693952 + y.r.v + y.beat)) ((y.withOpen true).withNext (2305843009213693952 + y.r.v + y.beat)) rfl rfl rfl).val EV.out, turned_set T2.out (inS p) _⟩
    · have EM := Lib.hid (show min now 2305843009213693952 = now by omega)
      obtain ⟨wd, hwd⟩ : ∃ wd, wd = (World.setCell w ⟨p.s, 6, none⟩ (.bool true)).drew := ⟨_, rfl⟩
      have hy := ((HW1.out ▸ HY.out).setS 6 (.bool true) (y.withOpen true) rfl rfl rfl).drew
      rw [← hwd] at hy
      have T2 := Lib.hid (show turned w wd p.L by rw [hwd]; exact turned_set (turned_refl w p.L) (inS p) _)
      have HWD := Lib.hid hwd
      have HD := Lib.hid hy
      have b0 := hy.1.cell 0 rfl
      have b4 := hy.1.cell 4 rfl
      have b5 : wd.cell? ⟨p.s, 5, none⟩ = some (.int .i64 y.beat) := hy.1.cell 5 rfl
      have bf := hy.1.free 4
      clear hwd hy f6 g6
      go_wp2_with fail
      refine region_tail 14 (by kernel_rfl) (by kernel_rfl) wd HWD.out ?_
      simp only [List.take_succ_cons, List.take_zero, List.drop_succ_cons, List.drop_zero]
      iterate 7 still_step
      still_call (calls_flip (value_ref y.r _ _ HD.out.2.1))
      iterate 6 still_step
      refine wpStill_nil ?_
      go_wp2_with fail
      go_ret
      have W1 : IntKind.i64.wrap (now + y.r.v) = now + y.r.v := IntWalk.i64_in _ (by omega)
      have W2 : IntKind.i64.wrap (now + y.r.v + y.beat) = now + y.r.v + y.beat := IntWalk.i64_in _ (by omega)
      try rw [W1]
      try rw [W2]
      have EV := Lib.hid (show (y.withOpen true).withNext (now + y.r.v + y.beat) = x.beat1 now by unfold PS.beat1; rw [EY.out, EM.out])
      refine ⟨rfl, (HD.out.setS 4 (.int .i64 (now + y.r.v + y.beat)) ((y.withOpen true).withNext (now + y.r.v + y.beat)) rfl rfl rfl).val EV.out, turned_set T2.out (inS p) _⟩
  · have EF := Lib.hid (show x.failed = x.fails by unfold PS.failed; rw [HOP.out]; rfl)
    refine (fails_ref x HK.out p _ H.out).mono ?_
    rintro e w1 ⟨rfl, o1, t1⟩
    rw [← EF.out] at o1
    have T1 := Lib.hid t1
    have KF2 := KF.out
    generalize hyy : x.failed = y at o1 KF2
    have EY := Lib.hid hyy
    clear EF KF hyy
    have kv := rv_bd KF2.2.2.2.2.2.2.2.2.1
    have kb1 := KF2.2.2.2.2.2.2.1
    have kb2 := KF2.2.2.2.2.2.2.2.1
    have HY := Lib.hid o1
    clear o1 KF2 t1 d4 d6
    have f6 := HY.out.1.free 6
    have g6 := HY.out.1.cell 6 rfl
    go_wp2_with fail
    by_cases hm : 2305843009213693952 < now
    · have EM := Lib.hid (show min now 2305843009213693952 = 2305843009213693952 by omega)
      obtain ⟨wd, hwd⟩ : ∃ wd, wd = (World.setCell w1 ⟨p.s, 6, none⟩ (.bool true)).drew := ⟨_, rfl⟩
      have hy := (HY.out.setS 6 (.bool true) (y.withOpen true) rfl rfl rfl).drew
      rw [← hwd] at hy
      have T2 := Lib.hid (show turned w wd p.L by rw [hwd]; exact turned_set T1.out (inS p) _)
      have HWD := Lib.hid hwd
      have HD := Lib.hid hy
      have b0 := hy.1.cell 0 rfl
      have b4 := hy.1.cell 4 rfl
      have b5 : wd.cell? ⟨p.s, 5, none⟩ = some (.int .i64 y.beat) := hy.1.cell 5 rfl
      have bf := hy.1.free 4
      clear hwd hy f6 g6
      go_wp2_with fail
      refine region_tail 14 (by kernel_rfl) (by kernel_rfl) wd HWD.out ?_
      simp only [List.take_succ_cons, List.take_zero, List.drop_succ_cons, List.drop_zero]
      iterate 7 still_step
      still_call (calls_flip (value_ref y.r _ _ HD.out.2.1))
      iterate 6 still_step
      refine wpStill_nil ?_
      go_wp2_with fail
      go_ret
      have W1 : IntKind.i64.wrap (2305843009213693952 + y.r.v) = 2305843009213693952 + y.r.v := IntWalk.i64_in _ (by omega)
      have W2 : IntKind.i64.wrap (2305843009213693952 + y.r.v + y.beat) = 2305843009213693952 + y.r.v + y.beat := IntWalk.i64_in _ (by omega)
      try rw [W1]
      try rw [W2]
      have EV := Lib.hid (show (y.withOpen true).withNext (2305843009213693952 + y.r.v + y.beat) = x.beat1 now by unfold PS.beat1; rw [EY.out, EM.out])
      refine ⟨rfl, (HD.out.setS 4 (.int .i64 (2305843009213693952 + y.r.v + y.beat)) ((y.withOpen true).withNext (2305843009213693952 + y.r.v + y.beat)) rfl rfl rfl).val EV.out, turned_set T2.out (inS p) _⟩
    · have EM := Lib.hid (show min now 2305843009213693952 = now by omega)
      obtain ⟨wd, hwd⟩ : ∃ wd, wd = (World.setCell w1 ⟨p.s, 6, none⟩ (.bool true)).drew := ⟨_, rfl⟩
      have hy := (HY.out.setS 6 (.bool true) (y.withOpen true) rfl rfl rfl).drew
      rw [← hwd] at hy
      have T2 := Lib.hid (show turned w wd p.L by rw [hwd]; exact turned_set T1.out (inS p) _)
      have HWD := Lib.hid hwd
      have HD := Lib.hid hy
      have b0 := hy.1.cell 0 rfl
      have b4 := hy.1.cell 4 rfl
      have b5 : wd.cell? ⟨p.s, 5, none⟩ = some (.int .i64 y.beat) := hy.1.cell 5 rfl
      have bf := hy.1.free 4
      clear hwd hy f6 g6
      go_wp2_with fail
      refine region_tail 14 (by kernel_rfl) (by kernel_rfl) wd HWD.out ?_
      simp only [List.take_succ_cons, List.take_zero, List.drop_succ_cons, List.drop_zero]
      iterate 7 still_step
      still_call (calls_flip (value_ref y.r _ _ HD.out.2.1))
      iterate 6 still_step
      refine wpStill_nil ?_
      go_wp2_with fail
      go_ret
      have W1 : IntKind.i64.wrap (now + y.r.v) = now + y.r.v := IntWalk.i64_in _ (by omega)
      have W2 : IntKind.i64.wrap (now + y.r.v + y.beat) = now + y.r.v + y.beat := IntWalk.i64_in _ (by omega)
      try rw [W1]
      try rw [W2]
      have EV := Lib.hid (show (y.withOpen true).withNext (now + y.r.v + y.beat) = x.beat1 now by unfold PS.beat1; rw [EY.out, EM.out])
      refine ⟨rfl, (HD.out.setS 4 (.int .i64 (now + y.r.v + y.beat)) ((y.withOpen true).withNext (now + y.r.v + y.beat)) rfl rfl rfl).val EV.out, turned_set T2.out (inS p) _⟩

set_option maxRecDepth 100000 in
set_option maxHeartbeats 1000000 in
theorem pbeaten_ref_no (x : PS) (s n : Int) (hb : x.beatenB s n = false) (p : PP) (w : World) (h : isRef w p x) :
    Calls Try.prog 49 #[.pointer (some ⟨p.s, 0, none⟩), .int .i64 s, .int .i64 n] w fun e w' => e = .returned (.bool false) ∧ w = w' := by
  have d6 := h.1.cell 6 rfl
  have H := Lib.hid h
  clear h
  cases hop : x.opn
  · rw [hop] at d6
    clear hop hb
    go_enter Try.func49, Try.ntmps49
    go_wp2_with fail
    go_ret
    exact ⟨rfl, rfl⟩
  · rw [hop] at d6
    have hc : s < 0 ∨ n < s := by
      unfold PS.beatenB at hb
      rw [hop] at hb
      simp at hb
      omega
    clear hop hb
    by_cases hs : s < 0
    · clear hc
      go_enter Try.func49, Try.ntmps49
      go_wp2_with fail
      go_ret
      exact ⟨rfl, rfl⟩
    · have hc2 : n < s := by omega
      clear hc
      go_enter Try.func49, Try.ntmps49
      go_wp2_with fail
      go_ret
      exact ⟨rfl, rfl⟩

set_option maxRecDepth 100000 in
set_option maxHeartbeats 1000000 in
theorem pbeaten_ref_yes (x : PS) {q : Int} (hok : x.ok q) (s n : Int) (hb : x.beatenB s n = true) (hn2 : n ≤ 9223372036854775807) (p : PP) (w : World) (h : isRef w p x) :
    Calls Try.prog 49 #[.pointer (some ⟨p.s, 0, none⟩), .int .i64 s, .int .i64 n] w fun e w' => e = .returned (.bool true) ∧ isRef w' p (x.answered.sample (n - s)) ∧ turned w w' p.L := by
  have d6 := h.1.cell 6 rfl
  have H := Lib.hid h
  have HK := Lib.hid hok
  clear h hok
  have hb' : x.opn = true ∧ 0 ≤ s ∧ s ≤ n := by
    unfold PS.beatenB at hb
    simpa using hb
  obtain ⟨hop, h1, h2⟩ := hb'
  rw [hop] at d6
  clear hop hb
  have ES := Lib.hid (show x.answered.sample (n - s) = x.answered.withR (x.answered.r.sample (n - s)) by unfold PS.sample; exact if_neg (by omega))
  go_enter Try.func49, Try.ntmps49
  go_wp2_with fail
  refine (answered_ref x p _ H.out).mono ?_
  rintro e w1 ⟨rfl, o1, t1⟩
  have O1 := Lib.hid o1
  have T1 := Lib.hid t1
  have e0 := o1.1.cell 0 rfl
  clear o1 t1 d6
  go_wp2_with fail
  refine (sample_ref x.answered.r HK.out.2.2.2.2.2.2.2.2.1 _ (n - s) (by omega) (by omega) _ O1.out.2.1).mono ?_
  rintro e w2 ⟨rfl, o2, g2⟩
  have O2 := Lib.hid (O1.out.setR o2 g2)
  have T2 := Lib.hid (turned_trans T1.out (turned_one g2 (inR p)))
  clear o2 g2
  go_wp2_with fail
  go_ret
  exact ⟨rfl, O2.out.val ES.out.symm, T2.out⟩

end Go.Proofs.Ytfboihbanehgcaa
