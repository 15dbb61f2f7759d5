/- The walk of PathFails. No condition. -/
import Derived.Test.YtfboihbanehgcaaPathRests
namespace Go.Proofs.Ytfboihbanehgcaa
open Go.RowKit Go.ChangeShapes Go.WideShapes Go.Deep
set_option linter.unusedVariables false
set_option linter.unusedSimpArgs false

theorem step_may (x : PS) (o : OP) : (x.step o).may = x.may := by
  unfold PS.step PS.answered PS.sample PS.timeout PS.beat' PS.beat1 PS.failed PS.fails PS.withS PS.withR PS.beaten PS.answered PS.sample PS.withOpen PS.withNext PS.withR
  repeat' split
  all_goals rfl
theorem step_other (x : PS) (o : OP) (h0 : ¬ o.k = 0) (h4 : ¬ o.k = 4) (h5 : ¬ o.k = 5) (h6 : ¬ o.k = 6) : (x.step o).bad = x.bad ∧ (x.step o).opn = x.opn ∧ x.stepB o = false := by
  unfold PS.step PS.stepB
  rw [if_neg h0, if_neg h4, if_neg h4, if_neg h5, if_neg h5, if_neg h6, if_neg h6]
  unfold PS.sample PS.withR PS.withS
  refine ⟨?_, ?_, rfl⟩
  all_goals repeat' split
  all_goals rfl
theorem fail_is (x : PS) (p : PP) (w : World) (h : isPath w p x) (b : Int) (hb : x.bad = b) : Calls Try.prog 18 #[.pointer (some ⟨p.b, 0, none⟩)] w fun e w' => e = .returned (.int .i64 b) ∧ w' = w := by
  subst hb
  exact calls_flip (fail_any x p w h)
theorem when_is (x : PS) (p : PP) (w : World) (h : isPath w p x) (b : Int) (hb : x.next = b) : Calls Try.prog 20 #[.pointer (some ⟨p.b, 0, none⟩)] w fun e w' => e = .returned (.int .i64 b) ∧ w' = w := by
  subst hb
  exact calls_flip (when_any x p w h)
theorem active_is (x : PS) (p : PP) (w : World) (h : isPath w p x) (b : Bool) (hb : x.act = b) : Calls Try.prog 16 #[.pointer (some ⟨p.b, 0, none⟩)] w fun e w' => e = .returned (.bool b) ∧ ∃ m, w' = w.drewN m := by
  subst hb
  exact active_any x p w h
def FRel (W : World) (p : PP) (cb : Nat) (rt : Int) (n : Nat) (bad opn i : Value) (wr : World) : Prop :=
  ∃ (k : Nat) (st : PS), k ≤ n ∧ i = .int .i64 (k : Int) ∧ bad = .int .i64 st.bad ∧ opn = .bool st.opn ∧ st.ok (k * 16777216) ∧ st.may = rt % 21 ∧ isPath wr p st ∧ obj wr cb 29 [.int .i64 0, .int .i64 128, .int .i64 0, .int .i64 0, .int .i64 0, .int .i64 1000, .int .i64 3, .int .i64 1, .int .i64 60, .int .i64 0, .int .i64 0, .int .i64 10, .int .i64 (rt % 21), .int .i64 0] ∧ Below W.heap.size W wr

set_option maxRecDepth 100000 in
set_option maxHeartbeats 32000000 in
theorem fails_good (rt : Int) (hrt : 0 ≤ rt ∧ rt ≤ 255) (v : Value) (x : Nat × (Nat → OP)) (W : World) (ho : Ops W v x) (hn : x.1 ≤ 300) :
    Calls Try.prog 8 #[.int .u8 rt, v] W fun e w' => e = .returned (.bool true) ∧ Below W.heap.size W w' := by
  obtain ⟨n, ops⟩ := x
  obtain ⟨⟨a, cap, rfl, hcap, hcap2, hsl⟩, hts⟩ := ho
  simp only at hn hts hsl hcap
  have HSL := Lib.hid hsl
  have HTS := Lib.hid hts
  clear hsl hts
  have P21 := Lib.hid (plain_fits rt 0 (by decide))
  have HI := Lib.hid (pok_init P21.out)
  have HB0 := Lib.hid (Below.refl W.heap.size W)
  have hm0 : 0 ≤ rt % 21 ∧ rt % 21 ≤ 20 := by omega
  go_enter Try.func8, Try.ntmps8
  go_wp2_with fail
  refine (plain_any rt hrt _).mono ?_
  rintro e w1 ⟨rfl, g1⟩
  have HB1 := Lib.hid (below_none HB0.out g1)
  clear g1
  have hc0 := obj.new w1 29 [.int .i64 0, .int .i64 128, .int .i64 0, .int .i64 0, .int .i64 0, .int .i64 1000, .int .i64 3, .int .i64 1, .int .i64 60, .int .i64 0, .int .i64 0, .int .i64 10, .int .i64 (rt % 21), .int .i64 0]
  have HC0 := Lib.hid (show obj (w1.alloc (.cells #[.int .i64 0, .int .i64 128, .int .i64 0, .int .i64 0, .int .i64 0, .int .i64 1000, .int .i64 3, .int .i64 1, .int .i64 60, .int .i64 0, .int .i64 0, .int .i64 10, .int .i64 (rt % 21), .int .i64 0] 29)) w1.heap.size 29 [.int .i64 0, .int .i64 128, .int .i64 0, .int .i64 0, .int .i64 0, .int .i64 1000, .int .i64 3, .int .i64 1, .int .i64 60, .int .i64 0, .int .i64 0, .int .i64 10, .int .i64 (rt % 21), .int .i64 0] from hc0)
  have HB1' := Lib.hid (HB1.out.alloc HB1.out.size (.cells #[.int .i64 0, .int .i64 128, .int .i64 0, .int .i64 0, .int .i64 0, .int .i64 1000, .int .i64 3, .int .i64 1, .int .i64 60, .int .i64 0, .int .i64 0, .int .i64 10, .int .i64 (rt % 21), .int .i64 0] 29))
  clear hc0
  unfold CF.cells plain
  go_wp2_with fail
  refine (pnew_any (plain rt) 0 P21.out _).mono ?_
  rintro e w2 ⟨p, rfl, o2, i2, g2⟩
  have O2 := Lib.hid o2
  have I2 := Lib.hid i2
  have C2 := Lib.hid (HC0.out.kept g2 (by simp))
  have HB2 := Lib.hid (below_none HB1'.out g2)
  have hcp : w1.heap.size ∉ p.L := by have := i2; unfold PP.within at this; simp at this; simp [PP.L]; omega
  have hcb : W.heap.size ≤ w1.heap.size := HB1.out.size
  have hlo : W.heap.size ≤ (w1.alloc (.cells #[.int .i64 0, .int .i64 128, .int .i64 0, .int .i64 0, .int .i64 0, .int .i64 1000, .int .i64 3, .int .i64 1, .int .i64 60, .int .i64 0, .int .i64 0, .int .i64 10, .int .i64 (rt % 21), .int .i64 0] 29)).heap.size := by simp; omega
  clear o2 i2 g2
  generalize w1.heap.size = cb at C2 hcp hcb ⊢
  go_wp2_with fail
  go_loopw [8, 9, 10] (fun bad opn i wr => FRel W p cb rt n bad opn i wr) (fun _ _ i _ => n - (intOf i).toNat)
  case atStart => exact ⟨0, _, Nat.zero_le _, rfl, rfl, rfl, HI.out, rfl, O2.out, C2.out, HB2.out⟩
  case round =>
    obtain ⟨k, st, hk, rfl, rfl, rfl, hok, hmay, h1, hc1, hbel⟩ := hrel
    obtain ⟨bad, may, next, beat, opn, r, s⟩ := st
    simp only at hmay
    subst hmay
    have hbd := hok.1
    have hbd2 := hok.2.1
    simp only at hbd hbd2
    have HOK := Lib.hid hok
    have H1 := Lib.hid h1
    have C1 := Lib.hid hc1
    have HB := Lib.hid hbel
    clear hok h1 hc1 hbel
    simp only
    by_cases hlt : k < n
    · rcases HSL.out with h0 | ⟨b, off, rfl, hb, hc⟩
      · omega
      have hr0 := sl_cell (hc k 0 hlt (by decide)) hb HB.out
      have hr1 := sl_cell (hc k 1 hlt (by decide)) hb HB.out
      have hr2 := sl_cell (hc k 2 hlt (by decide)) hb HB.out
      have hr3 := sl_cell (hc k 3 hlt (by decide)) hb HB.out
      have hr4 := sl_cell (hc k 4 hlt (by decide)) hb HB.out
      simp at hr0 hr1 hr2 hr3 hr4
      have hokk := HTS.out k hlt
      clear hc
      generalize ops k = oo at hr0 hr1 hr2 hr3 hr4 hokk
      obtain ⟨kd, nn, full, t, u⟩ := oo
      simp only at hr0 hr1 hr2 hr3 hr4
      have OKO := Lib.hid hokk
      have OK2 := Lib.hid (pok_more (q := ((k + 1 : Nat) : Int) * 16777216) (pok_step HOK.out (by omega) ⟨kd, nn, full, t, u⟩) (by omega))
      have HMD := Lib.hid (step_may (⟨bad, rt % 21, next, beat, opn, r, s⟩ : PS) ⟨kd, nn, full, t, u⟩)
      have hob := obj.new wr 35 [.int .i64 kd, .int .i64 nn, .bool full, .int .i64 t, .int .i64 u]
      have ta := turned_alloc (turned_refl wr []) (.cells #[.int .i64 kd, .int .i64 nn, .bool full, .int .i64 t, .int .i64 u] 35)
      have HX := Lib.hid (H1.out.stay ta)
      have CX := Lib.hid (C1.out.past ta (by simp))
      have HBX := Lib.hid (below_turned HB.out ta (by simp))
      have hox : wr.heap.size ∉ p.L := by
        have h1 := H1.out.2.1.lt
        have h2 := H1.out.2.2.1.lt
        have h3 := H1.out.2.2.2.lt
        simp [PP.L]; omega
      have hoc : cb ≠ wr.heap.size := by have := C1.out.lt; omega
      have HOBJ := Lib.hid (show obj (wr.alloc (.cells #[.int .i64 kd, .int .i64 nn, .bool full, .int .i64 t, .int .i64 u] 35)) wr.heap.size 35 [.int .i64 kd, .int .i64 nn, .bool full, .int .i64 t, .int .i64 u] from hob)
      clear hob ta hokk
      go_wp2_with fail
      go_quiet ((go_at_call 20; exact Calls.quiet_of_same (when_is _ p _ (HX.out.drewN _) next rfl)))
      go_wp2_with fail
      refine (does_any _ HOK.out (by omega) (by omega) ⟨kd, nn, full, t, u⟩ OKO.out p _ (HX.out.drewN _)).mono ?_
      rintro e w4 ⟨rfl, o4, t4⟩
      have O4 := Lib.hid o4
      have c4 := (CX.out.drewN _).past t4 hcp
      have C4 := Lib.hid c4
      have cc := c4.cell 12 rfl
      have ob := (HOBJ.out.drewN _).past t4 hox
      have y0 := ob.cell 0 rfl
      have y3 := ob.cell 3 rfl
      have y4 := ob.cell 4 rfl
      have HB4 := Lib.hid (below_path (below_drewN _ HBX.out) t4 I2.out hlo)
      clear o4 t4 c4 ob hr0 hr1 hr2 hr3 hr4
      by_cases k0 : kd = 0
      · subst k0
        have HSB := Lib.hid (show PS.stepB ⟨bad, rt % 21, next, beat, opn, r, s⟩ ⟨0, nn, full, t, u⟩ = false by rfl)
        have HFD := Lib.hid (show (PS.step ⟨bad, rt % 21, next, beat, opn, r, s⟩ ⟨0, nn, full, t, u⟩).bad = 0 by rfl)
        have HOD := Lib.hid (show (PS.step ⟨bad, rt % 21, next, beat, opn, r, s⟩ ⟨0, nn, full, t, u⟩).opn = false by rfl)
        have HAD := Lib.hid (show (PS.step ⟨bad, rt % 21, next, beat, opn, r, s⟩ ⟨0, nn, full, t, u⟩).act = decide (0 ≤ rt % 21) by unfold PS.act; rw [HFD.out, HMD.out])
        rw [HSB.out]
        have we : IntKind.i64.wrap (rt % 21 + 1) = rt % 21 + 1 := IntWalk.i64_in _ (by omega)
        go_wp2_with fail
        go_quiet ((first | (go_at_call 18; exact Calls.quiet_of_same (fail_is _ p _ (O4.out.drewN _) _ HFD.out)) | (go_at_call 16; exact Calls.quiet_of (active_is _ p _ (O4.out.drewN _) _ HAD.out))))
        clear we
        go_wp2_with fail
        go_roundw
        case rel => exact ⟨k + 1, _, by omega, by go_num, by rw [HFD.out], by rw [HOD.out], OK2.out, HMD.out, O4.out.drewN _, C4.out.drewN _, below_drewN _ HB4.out⟩
        case measure => simp [intOf]; omega
      by_cases k4 : kd = 4
      · subst k4
        clear k0
        by_cases b1 : bad < rt % 21
        · have qe : (bad == rt % 21) = false := by simp; omega
          have qe2 : decide (bad = rt % 21) = false := by simp; omega
          have ql : bad ≤ rt % 21 := by omega
          have HSB := Lib.hid (show PS.stepB ⟨bad, rt % 21, next, beat, opn, r, s⟩ ⟨4, nn, full, t, u⟩ = false by show (decide (bad ≤ rt % 21) && !decide (min (bad + 1) (rt % 21 + 1) ≤ rt % 21)) = _; simp; omega)
          have HFD := Lib.hid (show (PS.step ⟨bad, rt % 21, next, beat, opn, r, s⟩ ⟨4, nn, full, t, u⟩).bad = bad + 1 by show min (bad + 1) (rt % 21 + 1) = _; omega)
          have HOD := Lib.hid (show (PS.step ⟨bad, rt % 21, next, beat, opn, r, s⟩ ⟨4, nn, full, t, u⟩).opn = opn by rfl)
          have HAD := Lib.hid (show (PS.step ⟨bad, rt % 21, next, beat, opn, r, s⟩ ⟨4, nn, full, t, u⟩).act = decide (bad + 1 ≤ rt % 21) by unfold PS.act; rw [HFD.out, HMD.out])
          rw [HSB.out]
          have we : IntKind.i64.wrap (rt % 21 + 1) = rt % 21 + 1 := IntWalk.i64_in _ (by omega)
          go_wp2_with fail
          go_quiet ((first | (go_at_call 18; exact Calls.quiet_of_same (fail_is _ p _ (O4.out.drewN _) _ HFD.out)) | (go_at_call 16; exact Calls.quiet_of (active_is _ p _ (O4.out.drewN _) _ HAD.out))))
          clear we
          go_wp2_with fail
          go_roundw
          case rel => exact ⟨k + 1, _, by omega, by go_num, by rw [HFD.out], by rw [HOD.out], OK2.out, HMD.out, O4.out.drewN _, C4.out.drewN _, below_drewN _ HB4.out⟩
          case measure => simp [intOf]; omega
        by_cases b2 : bad = rt % 21
        · subst b2
          clear b1
          have HSB := Lib.hid (show PS.stepB ⟨rt % 21, rt % 21, next, beat, opn, r, s⟩ ⟨4, nn, full, t, u⟩ = true by show (decide ((rt % 21) ≤ rt % 21) && !decide (min ((rt % 21) + 1) (rt % 21 + 1) ≤ rt % 21)) = _; simp; omega)
          have HFD := Lib.hid (show (PS.step ⟨rt % 21, rt % 21, next, beat, opn, r, s⟩ ⟨4, nn, full, t, u⟩).bad = rt % 21 + 1 by show min ((rt % 21) + 1) (rt % 21 + 1) = _; omega)
          have HOD := Lib.hid (show (PS.step ⟨rt % 21, rt % 21, next, beat, opn, r, s⟩ ⟨4, nn, full, t, u⟩).opn = opn by rfl)
          have HAD := Lib.hid (show (PS.step ⟨rt % 21, rt % 21, next, beat, opn, r, s⟩ ⟨4, nn, full, t, u⟩).act = decide (rt % 21 + 1 ≤ rt % 21) by unfold PS.act; rw [HFD.out, HMD.out])
          rw [HSB.out]
          have we : IntKind.i64.wrap (rt % 21 + 1) = rt % 21 + 1 := IntWalk.i64_in _ (by omega)
          go_wp2_with fail
          go_quiet ((first | (go_at_call 18; exact Calls.quiet_of_same (fail_is _ p _ (O4.out.drewN _) _ HFD.out)) | (go_at_call 16; exact Calls.quiet_of (active_is _ p _ (O4.out.drewN _) _ HAD.out))))
          clear we
          go_wp2_with fail
          go_roundw
          case rel => exact ⟨k + 1, _, by omega, by go_num, by rw [HFD.out], by rw [HOD.out], OK2.out, HMD.out, O4.out.drewN _, C4.out.drewN _, below_drewN _ HB4.out⟩
          case measure => simp [intOf]; omega
        · have b3 : bad = rt % 21 + 1 := by omega
          subst b3
          clear b1 b2
          have qe : (rt % 21 + 1 == rt % 21) = false := by simp; omega
          have qe2 : decide (rt % 21 + 1 = rt % 21) = false := by simp; omega
          have HSB := Lib.hid (show PS.stepB ⟨rt % 21 + 1, rt % 21, next, beat, opn, r, s⟩ ⟨4, nn, full, t, u⟩ = false by show (decide ((rt % 21 + 1) ≤ rt % 21) && !decide (min ((rt % 21 + 1) + 1) (rt % 21 + 1) ≤ rt % 21)) = _; simp; omega)
          have HFD := Lib.hid (show (PS.step ⟨rt % 21 + 1, rt % 21, next, beat, opn, r, s⟩ ⟨4, nn, full, t, u⟩).bad = rt % 21 + 1 by show min ((rt % 21 + 1) + 1) (rt % 21 + 1) = _; omega)
          have HOD := Lib.hid (show (PS.step ⟨rt % 21 + 1, rt % 21, next, beat, opn, r, s⟩ ⟨4, nn, full, t, u⟩).opn = opn by rfl)
          have HAD := Lib.hid (show (PS.step ⟨rt % 21 + 1, rt % 21, next, beat, opn, r, s⟩ ⟨4, nn, full, t, u⟩).act = decide (rt % 21 + 1 ≤ rt % 21) by unfold PS.act; rw [HFD.out, HMD.out])
          rw [HSB.out]
          have we : IntKind.i64.wrap (rt % 21 + 1) = rt % 21 + 1 := IntWalk.i64_in _ (by omega)
          go_wp2_with fail
          go_quiet ((first | (go_at_call 18; exact Calls.quiet_of_same (fail_is _ p _ (O4.out.drewN _) _ HFD.out)) | (go_at_call 16; exact Calls.quiet_of (active_is _ p _ (O4.out.drewN _) _ HAD.out))))
          clear we
          go_wp2_with fail
          go_roundw
          case rel => exact ⟨k + 1, _, by omega, by go_num, by rw [HFD.out], by rw [HOD.out], OK2.out, HMD.out, O4.out.drewN _, C4.out.drewN _, below_drewN _ HB4.out⟩
          case measure => simp [intOf]; omega
      by_cases k5 : kd = 5
      · subst k5
        clear k0 k4
        by_cases hd : next ≤ t
        · have qd : decide (next ≤ t) = true := by simpa using hd
          cases opn
          · skip
            have HSB := Lib.hid (show PS.stepB ⟨bad, rt % 21, next, beat, false, r, s⟩ ⟨5, nn, full, t, u⟩ = true by show decide (next ≤ t) = true; exact qd)
            have HFD := Lib.hid (show (PS.step ⟨bad, rt % 21, next, beat, false, r, s⟩ ⟨5, nn, full, t, u⟩).bad = bad by show (PS.beat' ⟨bad, rt % 21, next, beat, false, r, s⟩ t).bad = _; unfold PS.beat'; rw [if_pos hd]; rfl)
            have HOD := Lib.hid (show (PS.step ⟨bad, rt % 21, next, beat, false, r, s⟩ ⟨5, nn, full, t, u⟩).opn = true by show (PS.beat' ⟨bad, rt % 21, next, beat, false, r, s⟩ t).opn = _; unfold PS.beat'; rw [if_pos hd]; rfl)
            have HAD := Lib.hid (show (PS.step ⟨bad, rt % 21, next, beat, false, r, s⟩ ⟨5, nn, full, t, u⟩).act = decide (bad ≤ rt % 21) by unfold PS.act; rw [HFD.out, HMD.out])
            rw [HSB.out]
            have we : IntKind.i64.wrap (rt % 21 + 1) = rt % 21 + 1 := IntWalk.i64_in _ (by omega)
            go_wp2_with fail
            go_quiet ((first | (go_at_call 18; exact Calls.quiet_of_same (fail_is _ p _ (O4.out.drewN _) _ HFD.out)) | (go_at_call 16; exact Calls.quiet_of (active_is _ p _ (O4.out.drewN _) _ HAD.out))))
            clear we
            go_wp2_with fail
            go_roundw
            case rel => exact ⟨k + 1, _, by omega, by go_num, by rw [HFD.out], by rw [HOD.out], OK2.out, HMD.out, O4.out.drewN _, C4.out.drewN _, below_drewN _ HB4.out⟩
            case measure => simp [intOf]; omega
          · by_cases b1 : bad ≤ rt % 21
            · skip
              have HSB := Lib.hid (show PS.stepB ⟨bad, rt % 21, next, beat, true, r, s⟩ ⟨5, nn, full, t, u⟩ = true by show decide (next ≤ t) = true; exact qd)
              have HFD := Lib.hid (show (PS.step ⟨bad, rt % 21, next, beat, true, r, s⟩ ⟨5, nn, full, t, u⟩).bad = bad + 1 by show (PS.beat' ⟨bad, rt % 21, next, beat, true, r, s⟩ t).bad = _; unfold PS.beat'; rw [if_pos hd]; show min (bad + 1) (rt % 21 + 1) = _; omega)
              have HOD := Lib.hid (show (PS.step ⟨bad, rt % 21, next, beat, true, r, s⟩ ⟨5, nn, full, t, u⟩).opn = true by show (PS.beat' ⟨bad, rt % 21, next, beat, true, r, s⟩ t).opn = _; unfold PS.beat'; rw [if_pos hd]; rfl)
              have HAD := Lib.hid (show (PS.step ⟨bad, rt % 21, next, beat, true, r, s⟩ ⟨5, nn, full, t, u⟩).act = decide (bad + 1 ≤ rt % 21) by unfold PS.act; rw [HFD.out, HMD.out])
              rw [HSB.out]
              have we : IntKind.i64.wrap (rt % 21 + 1) = rt % 21 + 1 := IntWalk.i64_in _ (by omega)
              go_wp2_with fail
              go_quiet ((first | (go_at_call 18; exact Calls.quiet_of_same (fail_is _ p _ (O4.out.drewN _) _ HFD.out)) | (go_at_call 16; exact Calls.quiet_of (active_is _ p _ (O4.out.drewN _) _ HAD.out))))
              clear we
              go_wp2_with fail
              go_roundw
              case rel => exact ⟨k + 1, _, by omega, by go_num, by rw [HFD.out], by rw [HOD.out], OK2.out, HMD.out, O4.out.drewN _, C4.out.drewN _, below_drewN _ HB4.out⟩
              case measure => simp [intOf]; omega
            · have b2 : rt % 21 < bad := by omega
              clear b1
              have HSB := Lib.hid (show PS.stepB ⟨bad, rt % 21, next, beat, true, r, s⟩ ⟨5, nn, full, t, u⟩ = true by show decide (next ≤ t) = true; exact qd)
              have HFD := Lib.hid (show (PS.step ⟨bad, rt % 21, next, beat, true, r, s⟩ ⟨5, nn, full, t, u⟩).bad = rt % 21 + 1 by show (PS.beat' ⟨bad, rt % 21, next, beat, true, r, s⟩ t).bad = _; unfold PS.beat'; rw [if_pos hd]; show min (bad + 1) (rt % 21 + 1) = _; omega)
              have HOD := Lib.hid (show (PS.step ⟨bad, rt % 21, next, beat, true, r, s⟩ ⟨5, nn, full, t, u⟩).opn = true by show (PS.beat' ⟨bad, rt % 21, next, beat, true, r, s⟩ t).opn = _; unfold PS.beat'; rw [if_pos hd]; rfl)
              have HAD := Lib.hid (show (PS.step ⟨bad, rt % 21, next, beat, true, r, s⟩ ⟨5, nn, full, t, u⟩).act = decide (rt % 21 + 1 ≤ rt % 21) by unfold PS.act; rw [HFD.out, HMD.out])
              rw [HSB.out]
              have we : IntKind.i64.wrap (rt % 21 + 1) = rt % 21 + 1 := IntWalk.i64_in _ (by omega)
              go_wp2_with fail
              go_quiet ((first | (go_at_call 18; exact Calls.quiet_of_same (fail_is _ p _ (O4.out.drewN _) _ HFD.out)) | (go_at_call 16; exact Calls.quiet_of (active_is _ p _ (O4.out.drewN _) _ HAD.out))))
              clear we
              go_wp2_with fail
              go_roundw
              case rel => exact ⟨k + 1, _, by omega, by go_num, by rw [HFD.out], by rw [HOD.out], OK2.out, HMD.out, O4.out.drewN _, C4.out.drewN _, below_drewN _ HB4.out⟩
              case measure => simp [intOf]; omega
        · have qd : decide (next ≤ t) = false := by simpa using hd
          cases opn
          · skip
            have HSB := Lib.hid (show PS.stepB ⟨bad, rt % 21, next, beat, false, r, s⟩ ⟨5, nn, full, t, u⟩ = false by show decide (next ≤ t) = false; exact qd)
            have HFD := Lib.hid (show (PS.step ⟨bad, rt % 21, next, beat, false, r, s⟩ ⟨5, nn, full, t, u⟩).bad = bad by show (PS.beat' ⟨bad, rt % 21, next, beat, false, r, s⟩ t).bad = _; unfold PS.beat'; rw [if_neg hd])
            have HOD := Lib.hid (show (PS.step ⟨bad, rt % 21, next, beat, false, r, s⟩ ⟨5, nn, full, t, u⟩).opn = false by show (PS.beat' ⟨bad, rt % 21, next, beat, false, r, s⟩ t).opn = _; unfold PS.beat'; rw [if_neg hd])
            have HAD := Lib.hid (show (PS.step ⟨bad, rt % 21, next, beat, false, r, s⟩ ⟨5, nn, full, t, u⟩).act = decide (bad ≤ rt % 21) by unfold PS.act; rw [HFD.out, HMD.out])
            rw [HSB.out]
            have we : IntKind.i64.wrap (rt % 21 + 1) = rt % 21 + 1 := IntWalk.i64_in _ (by omega)
            go_wp2_with fail
            go_quiet ((first | (go_at_call 18; exact Calls.quiet_of_same (fail_is _ p _ (O4.out.drewN _) _ HFD.out)) | (go_at_call 16; exact Calls.quiet_of (active_is _ p _ (O4.out.drewN _) _ HAD.out))))
            clear we
            go_wp2_with fail
            go_roundw
            case rel => exact ⟨k + 1, _, by omega, by go_num, by rw [HFD.out], by rw [HOD.out], OK2.out, HMD.out, O4.out.drewN _, C4.out.drewN _, below_drewN _ HB4.out⟩
            case measure => simp [intOf]; omega
          · skip
            have HSB := Lib.hid (show PS.stepB ⟨bad, rt % 21, next, beat, true, r, s⟩ ⟨5, nn, full, t, u⟩ = false by show decide (next ≤ t) = false; exact qd)
            have HFD := Lib.hid (show (PS.step ⟨bad, rt % 21, next, beat, true, r, s⟩ ⟨5, nn, full, t, u⟩).bad = bad by show (PS.beat' ⟨bad, rt % 21, next, beat, true, r, s⟩ t).bad = _; unfold PS.beat'; rw [if_neg hd])
            have HOD := Lib.hid (show (PS.step ⟨bad, rt % 21, next, beat, true, r, s⟩ ⟨5, nn, full, t, u⟩).opn = true by show (PS.beat' ⟨bad, rt % 21, next, beat, true, r, s⟩ t).opn = _; unfold PS.beat'; rw [if_neg hd])
            have HAD := Lib.hid (show (PS.step ⟨bad, rt % 21, next, beat, true, r, s⟩ ⟨5, nn, full, t, u⟩).act = decide (bad ≤ rt % 21) by unfold PS.act; rw [HFD.out, HMD.out])
            rw [HSB.out]
            have we : IntKind.i64.wrap (rt % 21 + 1) = rt % 21 + 1 := IntWalk.i64_in _ (by omega)
            go_wp2_with fail
            go_quiet ((first | (go_at_call 18; exact Calls.quiet_of_same (fail_is _ p _ (O4.out.drewN _) _ HFD.out)) | (go_at_call 16; exact Calls.quiet_of (active_is _ p _ (O4.out.drewN _) _ HAD.out))))
            clear we
            go_wp2_with fail
            go_roundw
            case rel => exact ⟨k + 1, _, by omega, by go_num, by rw [HFD.out], by rw [HOD.out], OK2.out, HMD.out, O4.out.drewN _, C4.out.drewN _, below_drewN _ HB4.out⟩
            case measure => simp [intOf]; omega
      by_cases k6 : kd = 6
      · subst k6
        clear k0 k4 k5
        cases opn
        · skip
          have BB := Lib.hid (show PS.beatenB ⟨bad, rt % 21, next, beat, false, r, s⟩ t u = false by unfold PS.beatenB; simp; try omega)
          have HSB := Lib.hid (show PS.stepB ⟨bad, rt % 21, next, beat, false, r, s⟩ ⟨6, nn, full, t, u⟩ = false by exact BB.out)
          have HFD := Lib.hid (show (PS.step ⟨bad, rt % 21, next, beat, false, r, s⟩ ⟨6, nn, full, t, u⟩).bad = bad by show (PS.beaten ⟨bad, rt % 21, next, beat, false, r, s⟩ t u).bad = _; unfold PS.beaten; rw [BB.out]; rfl)
          have HOD := Lib.hid (show (PS.step ⟨bad, rt % 21, next, beat, false, r, s⟩ ⟨6, nn, full, t, u⟩).opn = false by show (PS.beaten ⟨bad, rt % 21, next, beat, false, r, s⟩ t u).opn = _; unfold PS.beaten; rw [BB.out]; rfl)
          have HAD := Lib.hid (show (PS.step ⟨bad, rt % 21, next, beat, false, r, s⟩ ⟨6, nn, full, t, u⟩).act = decide (bad ≤ rt % 21) by unfold PS.act; rw [HFD.out, HMD.out])
          rw [HSB.out]
          have we : IntKind.i64.wrap (rt % 21 + 1) = rt % 21 + 1 := IntWalk.i64_in _ (by omega)
          go_wp2_with fail
          go_quiet ((first | (go_at_call 18; exact Calls.quiet_of_same (fail_is _ p _ (O4.out.drewN _) _ HFD.out)) | (go_at_call 16; exact Calls.quiet_of (active_is _ p _ (O4.out.drewN _) _ HAD.out))))
          clear we
          go_wp2_with fail
          go_roundw
          case rel => exact ⟨k + 1, _, by omega, by go_num, by rw [HFD.out], by rw [HOD.out], OK2.out, HMD.out, O4.out.drewN _, C4.out.drewN _, below_drewN _ HB4.out⟩
          case measure => simp [intOf]; omega
        · by_cases h0 : 0 ≤ t
          · have q0 : decide (0 ≤ t) = true := by simpa using h0
            by_cases h1 : t ≤ u
            · have q1 : decide (t ≤ u) = true := by simpa using h1
              have BB := Lib.hid (show PS.beatenB ⟨bad, rt % 21, next, beat, true, r, s⟩ t u = true by unfold PS.beatenB; simp; try omega)
              have HSB := Lib.hid (show PS.stepB ⟨bad, rt % 21, next, beat, true, r, s⟩ ⟨6, nn, full, t, u⟩ = true by exact BB.out)
              have HFD := Lib.hid (show (PS.step ⟨bad, rt % 21, next, beat, true, r, s⟩ ⟨6, nn, full, t, u⟩).bad = 0 by show (PS.beaten ⟨bad, rt % 21, next, beat, true, r, s⟩ t u).bad = _; unfold PS.beaten; rw [BB.out]; show (PS.sample _ _).bad = _; unfold PS.sample; split <;> rfl)
              have HOD := Lib.hid (show (PS.step ⟨bad, rt % 21, next, beat, true, r, s⟩ ⟨6, nn, full, t, u⟩).opn = false by show (PS.beaten ⟨bad, rt % 21, next, beat, true, r, s⟩ t u).opn = _; unfold PS.beaten; rw [BB.out]; show (PS.sample _ _).opn = _; unfold PS.sample; split <;> rfl)
              have HAD := Lib.hid (show (PS.step ⟨bad, rt % 21, next, beat, true, r, s⟩ ⟨6, nn, full, t, u⟩).act = decide (0 ≤ rt % 21) by unfold PS.act; rw [HFD.out, HMD.out])
              rw [HSB.out]
              have we : IntKind.i64.wrap (rt % 21 + 1) = rt % 21 + 1 := IntWalk.i64_in _ (by omega)
              go_wp2_with fail
              go_quiet ((first | (go_at_call 18; exact Calls.quiet_of_same (fail_is _ p _ (O4.out.drewN _) _ HFD.out)) | (go_at_call 16; exact Calls.quiet_of (active_is _ p _ (O4.out.drewN _) _ HAD.out))))
              clear we
              go_wp2_with fail
              go_roundw
              case rel => exact ⟨k + 1, _, by omega, by go_num, by rw [HFD.out], by rw [HOD.out], OK2.out, HMD.out, O4.out.drewN _, C4.out.drewN _, below_drewN _ HB4.out⟩
              case measure => simp [intOf]; omega
            · have q1 : decide (t ≤ u) = false := by simpa using h1
              have BB := Lib.hid (show PS.beatenB ⟨bad, rt % 21, next, beat, true, r, s⟩ t u = false by unfold PS.beatenB; simp; try omega)
              have HSB := Lib.hid (show PS.stepB ⟨bad, rt % 21, next, beat, true, r, s⟩ ⟨6, nn, full, t, u⟩ = false by exact BB.out)
              have HFD := Lib.hid (show (PS.step ⟨bad, rt % 21, next, beat, true, r, s⟩ ⟨6, nn, full, t, u⟩).bad = bad by show (PS.beaten ⟨bad, rt % 21, next, beat, true, r, s⟩ t u).bad = _; unfold PS.beaten; rw [BB.out]; rfl)
              have HOD := Lib.hid (show (PS.step ⟨bad, rt % 21, next, beat, true, r, s⟩ ⟨6, nn, full, t, u⟩).opn = true by show (PS.beaten ⟨bad, rt % 21, next, beat, true, r, s⟩ t u).opn = _; unfold PS.beaten; rw [BB.out]; rfl)
              have HAD := Lib.hid (show (PS.step ⟨bad, rt % 21, next, beat, true, r, s⟩ ⟨6, nn, full, t, u⟩).act = decide (bad ≤ rt % 21) by unfold PS.act; rw [HFD.out, HMD.out])
              rw [HSB.out]
              have we : IntKind.i64.wrap (rt % 21 + 1) = rt % 21 + 1 := IntWalk.i64_in _ (by omega)
              go_wp2_with fail
              go_quiet ((first | (go_at_call 18; exact Calls.quiet_of_same (fail_is _ p _ (O4.out.drewN _) _ HFD.out)) | (go_at_call 16; exact Calls.quiet_of (active_is _ p _ (O4.out.drewN _) _ HAD.out))))
              clear we
              go_wp2_with fail
              go_roundw
              case rel => exact ⟨k + 1, _, by omega, by go_num, by rw [HFD.out], by rw [HOD.out], OK2.out, HMD.out, O4.out.drewN _, C4.out.drewN _, below_drewN _ HB4.out⟩
              case measure => simp [intOf]; omega
          · have q0 : decide (0 ≤ t) = false := by simpa using h0
            have BB := Lib.hid (show PS.beatenB ⟨bad, rt % 21, next, beat, true, r, s⟩ t u = false by unfold PS.beatenB; simp; try omega)
            have HSB := Lib.hid (show PS.stepB ⟨bad, rt % 21, next, beat, true, r, s⟩ ⟨6, nn, full, t, u⟩ = false by exact BB.out)
            have HFD := Lib.hid (show (PS.step ⟨bad, rt % 21, next, beat, true, r, s⟩ ⟨6, nn, full, t, u⟩).bad = bad by show (PS.beaten ⟨bad, rt % 21, next, beat, true, r, s⟩ t u).bad = _; unfold PS.beaten; rw [BB.out]; rfl)
            have HOD := Lib.hid (show (PS.step ⟨bad, rt % 21, next, beat, true, r, s⟩ ⟨6, nn, full, t, u⟩).opn = true by show (PS.beaten ⟨bad, rt % 21, next, beat, true, r, s⟩ t u).opn = _; unfold PS.beaten; rw [BB.out]; rfl)
            have HAD := Lib.hid (show (PS.step ⟨bad, rt % 21, next, beat, true, r, s⟩ ⟨6, nn, full, t, u⟩).act = decide (bad ≤ rt % 21) by unfold PS.act; rw [HFD.out, HMD.out])
            rw [HSB.out]
            have we : IntKind.i64.wrap (rt % 21 + 1) = rt % 21 + 1 := IntWalk.i64_in _ (by omega)
            go_wp2_with fail
            go_quiet ((first | (go_at_call 18; exact Calls.quiet_of_same (fail_is _ p _ (O4.out.drewN _) _ HFD.out)) | (go_at_call 16; exact Calls.quiet_of (active_is _ p _ (O4.out.drewN _) _ HAD.out))))
            clear we
            go_wp2_with fail
            go_roundw
            case rel => exact ⟨k + 1, _, by omega, by go_num, by rw [HFD.out], by rw [HOD.out], OK2.out, HMD.out, O4.out.drewN _, C4.out.drewN _, below_drewN _ HB4.out⟩
            case measure => simp [intOf]; omega
      · have z0 : (kd == 0) = false := by simpa using k0
        have z4 : (kd == 4) = false := by simpa using k4
        have z5 : (kd == 5) = false := by simpa using k5
        have z6 : (kd == 6) = false := by simpa using k6
        have SO := Lib.hid (step_other (⟨bad, rt % 21, next, beat, opn, r, s⟩) (⟨kd, nn, full, t, u⟩) k0 k4 k5 k6)
        clear k0 k4 k5 k6
        have HSB := Lib.hid (show PS.stepB ⟨bad, rt % 21, next, beat, opn, r, s⟩ ⟨kd, nn, full, t, u⟩ = false by exact SO.out.2.2)
        have HFD := Lib.hid (show (PS.step ⟨bad, rt % 21, next, beat, opn, r, s⟩ ⟨kd, nn, full, t, u⟩).bad = bad by exact SO.out.1)
        have HOD := Lib.hid (show (PS.step ⟨bad, rt % 21, next, beat, opn, r, s⟩ ⟨kd, nn, full, t, u⟩).opn = opn by exact SO.out.2.1)
        have HAD := Lib.hid (show (PS.step ⟨bad, rt % 21, next, beat, opn, r, s⟩ ⟨kd, nn, full, t, u⟩).act = decide (bad ≤ rt % 21) by unfold PS.act; rw [HFD.out, HMD.out])
        rw [HSB.out]
        have we : IntKind.i64.wrap (rt % 21 + 1) = rt % 21 + 1 := IntWalk.i64_in _ (by omega)
        go_wp2_with fail
        go_quiet ((first | (go_at_call 18; exact Calls.quiet_of_same (fail_is _ p _ (O4.out.drewN _) _ HFD.out)) | (go_at_call 16; exact Calls.quiet_of (active_is _ p _ (O4.out.drewN _) _ HAD.out))))
        clear we
        go_wp2_with fail
        go_roundw
        case rel => exact ⟨k + 1, _, by omega, by go_num, by rw [HFD.out], by rw [HOD.out], OK2.out, HMD.out, O4.out.drewN _, C4.out.drewN _, below_drewN _ HB4.out⟩
        case measure => simp [intOf]; omega
    · go_wp2_with (go_at_call 9; refine (works_any _).mono ?_; rintro e w9 ⟨rfl, g9⟩)
      go_ret
      exact ⟨rfl, below_none HB.out g9⟩

theorem pathFails.walk (W : World) (rt : Int) (wr : (Lit.int .u8 rt).wf = true) (v : Value) (x : Nat × (Nat → OP)) (ho : Ops W v x) :
    Calls Try.prog 8 #[.int .u8 rt, v] W fun e w' => e = .returned (.bool true) ∧ Below W.heap.size W w' := by
  by_cases hn : x.1 ≤ 300
  · exact fails_good rt (bounds_u8 wr) v x W ho hn
  · obtain ⟨n, ops⟩ := x
    obtain ⟨⟨a, cap, rfl, hcap, hcap2, hsl⟩, hts⟩ := ho
    simp only at hn
    have hn2 : 300 < n := by omega
    clear hsl hts hn
    go_enter Try.func8, Try.ntmps8
    go_wp2_with (go_at_call 9; refine (works_any _).mono ?_; rintro e w9 ⟨rfl, g9⟩)
    go_ret
    exact ⟨rfl, below_none (Below.refl _ _) g9⟩
end Go.Proofs.Ytfboihbanehgcaa
