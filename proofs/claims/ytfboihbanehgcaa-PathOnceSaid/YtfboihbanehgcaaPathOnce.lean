/- The walk of PathOnce. No condition. -/
import Derived.Test.YtfboihbanehgcaaPathWorks
namespace Go.Proofs.Ytfboihbanehgcaa
open Go.RowKit Go.ChangeShapes Go.WideShapes Go.Deep
set_option linter.unusedVariables false
set_option linter.unusedSimpArgs false

theorem timeout_bad (x : PS) : x.timeout.bad = min (x.bad + 1) (x.may + 1) := rfl
theorem timeout_act (x : PS) : x.timeout.act = decide (min (x.bad + 1) (x.may + 1) ≤ x.may) := rfl
theorem timeoutB_eq (x : PS) : x.timeoutB = (decide (x.bad ≤ x.may) && !decide (min (x.bad + 1) (x.may + 1) ≤ x.may)) := rfl
def TRel (W : World) (p : PP) (cb : Nat) (rt : Int) (n : Nat) (i : Value) (wr : World) : Prop :=
  ∃ (k : Nat) (st : PS), k ≤ n ∧ i = .int .i64 ((k : Int) + 1) ∧ st.ok 0 ∧ st.bad = min (k : Int) (rt % 21 + 1) ∧ st.may = rt % 21 ∧ st.s.mtu = 128 ∧ isPath wr p st ∧ obj wr cb 29 [.int .i64 0, .int .i64 128, .int .i64 0, .int .i64 0, .int .i64 0, .int .i64 1000, .int .i64 3, .int .i64 1, .int .i64 60, .int .i64 0, .int .i64 0, .int .i64 10, .int .i64 (rt % 21), .int .i64 0] ∧ Below W.heap.size W wr

set_option maxRecDepth 100000 in
set_option maxHeartbeats 8000000 in
theorem pathOnce.walk (W : World) (rt : Int) (wr : (Lit.int .u8 rt).wf = true) (many : Int) (wm : (Lit.int .u8 many).wf = true) :
    Calls Try.prog 5 #[.int .u8 rt, .int .u8 many] W fun e w' => e = .returned (.bool true) ∧ Below W.heap.size W w' := by
  have hrt := bounds_u8 wr
  have hmy := bounds_u8 wm
  clear wr wm
  obtain ⟨M, rfl⟩ := Int.eq_ofNat_of_zero_le hmy.1
  have P21 := Lib.hid (plain_fits rt 0 (by decide))
  have HI := Lib.hid (pok_init P21.out)
  have HB0 := Lib.hid (Below.refl W.heap.size W)
  have hm0 : 0 ≤ rt % 21 ∧ rt % 21 ≤ 20 := by omega
  go_enter Try.func5, Try.ntmps5
  go_wp2_with fail
  refine (plain_any rt hrt _).mono ?_
  rintro e w1 ⟨rfl, g1⟩
  have HB1 := Lib.hid (below_none HB0.out g1)
  clear g1
  have hc0 := obj.new w1 29 [.int .i64 0, .int .i64 128, .int .i64 0, .int .i64 0, .int .i64 0, .int .i64 1000, .int .i64 3, .int .i64 1, .int .i64 60, .int .i64 0, .int .i64 0, .int .i64 10, .int .i64 (rt % 21), .int .i64 0]
  have HC0 := Lib.hid (show obj (w1.alloc (.cells #[.int .i64 0, .int .i64 128, .int .i64 0, .int .i64 0, .int .i64 0, .int .i64 1000, .int .i64 3, .int .i64 1, .int .i64 60, .int .i64 0, .int .i64 0, .int .i64 10, .int .i64 (rt % 21), .int .i64 0] 29)) w1.heap.size 29 [.int .i64 0, .int .i64 128, .int .i64 0, .int .i64 0, .int .i64 0, .int .i64 1000, .int .i64 3, .int .i64 1, .int .i64 60, .int .i64 0, .int .i64 0, .int .i64 10, .int .i64 (rt % 21), .int .i64 0] from hc0)
  have HB1' := Lib.hid (HB1.out.alloc HB1.out.size (.cells #[.int .i64 0, .int .i64 128, .int .i64 0, .int .i64 0, .int .i64 0, .int .i64 1000, .int .i64 3, .int .i64 1, .int .i64 60, .int .i64 0, .int .i64 0, .int .i64 10, .int .i64 (rt % 21), .int .i64 0] 29))
  clear hc0
  unfold CF.cells plain
  go_wp2_with fail
  refine (pnew_any (plain rt) 0 P21.out _).mono ?_
  rintro e w2 ⟨p, rfl, o2, i2, g2⟩
  have O2 := Lib.hid o2
  have I2 := Lib.hid i2
  have C2 := Lib.hid (HC0.out.kept g2 (by simp))
  have HB2 := Lib.hid (below_none HB1'.out g2)
  have hcp : w1.heap.size ∉ p.L := by have := i2; unfold PP.within at this; simp at this; simp [PP.L]; omega
  have hcb : W.heap.size ≤ w1.heap.size := HB1.out.size
  have hlo : W.heap.size ≤ (w1.alloc (.cells #[.int .i64 0, .int .i64 128, .int .i64 0, .int .i64 0, .int .i64 0, .int .i64 1000, .int .i64 3, .int .i64 1, .int .i64 60, .int .i64 0, .int .i64 0, .int .i64 10, .int .i64 (rt % 21), .int .i64 0] 29)).heap.size := by simp; omega
  clear o2 i2 g2
  generalize w1.heap.size = cb at C2 hcp hcb ⊢
  go_wp2_with fail
  go_loopw [8] (fun i wr => TRel W p cb rt (M % 61) i wr) (fun i _ => M % 61 + 1 - (intOf i).toNat)
  case atStart => exact ⟨0, _, Nat.zero_le _, by go_num, HI.out, by show (0 : Int) = _; omega, rfl, rfl, O2.out, C2.out, HB2.out⟩
  case round =>
    obtain ⟨k, st, hk, rfl, hok, hbad, hmay, hmtu, h1, hc1, hbel⟩ := hrel
    have HOK := Lib.hid hok
    have HBAD := Lib.hid hbad
    have HMAY := Lib.hid hmay
    have HMTU := Lib.hid hmtu
    have H1 := Lib.hid h1
    have C1 := Lib.hid hc1
    have HB := Lib.hid hbel
    have c12 := hc1.cell 12 rfl
    clear hok hbad hmay hmtu h1 hc1 hbel
    by_cases hlt : k < M % 61
    · have hlt2 : (k : Int) + 1 ≤ (M : Int) % 61 := by omega
      by_cases hA : (k : Int) < rt % 21
      · skip
        have HTB := Lib.hid (show st.timeoutB = false by rw [timeoutB_eq, HBAD.out, HMAY.out]; simp; omega)
        have HAC := Lib.hid (show st.timeout.act = true by rw [timeout_act, HBAD.out, HMAY.out]; simp; omega)
        have HBD := Lib.hid (show st.timeout.bad = (k : Int) + 1 by rw [timeout_bad, HBAD.out, HMAY.out]; omega)
        have HSZ := Lib.hid (show st.timeout.s.size = 128 from HMTU.out)
        have q1 : ((k : Int) + 1 == rt % 21 + 1) = false := by simp; omega
        have q1' : ((k : Int) == rt % 21) = false := by simp; omega
        have q1'' : decide ((k : Int) = rt % 21) = false := by simp; omega
        have q2 : decide ((k : Int) + 1 ≤ rt % 21) = true := by simp; omega
        have q2' : decide ((k : Int) < rt % 21) = true := by simp; omega
        have q3 : ((k : Int) + 1 != (k : Int) + 1) = false := by simp
        have qb : ((k : Int) + 1 != if rt % 21 < (k : Int) then rt % 21 + 1 else (k : Int) + 1) = false := by rw [if_neg (by omega)]; simp
        have OK2 := Lib.hid (pok_timeout HOK.out (Int.le_refl 0))
        have we : IntKind.i64.wrap (rt % 21 + 1) = rt % 21 + 1 := IntWalk.i64_in _ (by omega)
        go_wp2_with fail
        go_region_held3 (fun w' => w'.cell? ⟨cb, 12, none⟩ = some (.int .i64 (rt % 21))) (first | (simp [go_sem, *]; done) | assumption) (first
          | (go_at_call 17; refine (ptimeout_any st HOK.out (Int.le_refl 0) p _ (by exact H1.out.drew)).mono ?_; rintro e w4 ⟨rfl, o4, t4⟩; rw [HTB.out]; have c4 := turned_cell t4 (by exact c12) hcp; have O4 := Lib.hid o4; have T4 := Lib.hid t4; clear o4 t4)
          | (go_at_call 16; refine (active_any st.timeout p _ O4.out).mono ?_; rintro e w5 ⟨rfl, n5, rfl⟩; rw [HAC.out]; have c5 := turned_cell (turned_drewN w4 n5 []) c4 (by simp))
          | (go_at_call 18; refine (fail_any st.timeout p _ (O4.out.drewN n5)).mono ?_; rintro e w6 ⟨rfl, rfl⟩; rw [HBD.out])
          | (go_at_call 13; refine (psize_any st.timeout p _ (O4.out.drewN n5)).mono ?_; rintro e w7 ⟨rfl, rfl⟩; rw [HSZ.out]))
        all_goals clear we
        all_goals have HB4 := Lib.hid (below_drewN n5 (below_path HB.out.drew T4.out I2.out hlo))
        all_goals have C4 := Lib.hid ((C1.out.past T4.out hcp).drewN n5)
        all_goals go_wp2_with fail
        all_goals go_roundw
        all_goals first
          | (case rel => exact ⟨k + 1, st.timeout, by omega, by go_num, OK2.out, by rw [timeout_bad, HBAD.out, HMAY.out]; push_cast; omega, HMAY.out, HMTU.out, O4.out.drewN n5, C4.out, HB4.out⟩)
          | (simp [intOf]; omega)
          | (exfalso; omega)
      by_cases hB : (k : Int) = rt % 21
      · have HBQ := Lib.hid hB
        have hB1 : (k : Int) ≤ rt % 21 := by omega
        have hB2 : rt % 21 ≤ (k : Int) := by omega
        clear hB hA
        have HTB := Lib.hid (show st.timeoutB = true by rw [timeoutB_eq, HBAD.out, HMAY.out]; simp; omega)
        have HAC := Lib.hid (show st.timeout.act = false by rw [timeout_act, HBAD.out, HMAY.out]; simp; omega)
        have HBD := Lib.hid (show st.timeout.bad = (k : Int) + 1 by rw [timeout_bad, HBAD.out, HMAY.out]; omega)
        have HSZ := Lib.hid (show st.timeout.s.size = 128 from HMTU.out)
        have q1 : ((k : Int) + 1 == rt % 21 + 1) = true := by simp; omega
        have q1' : ((k : Int) == rt % 21) = true := by simp; omega
        have q1'' : decide ((k : Int) = rt % 21) = true := by simp; omega
        have q2 : decide ((k : Int) + 1 ≤ rt % 21) = false := by simp; omega
        have q2' : decide ((k : Int) < rt % 21) = false := by simp; omega
        have q3 : ((k : Int) + 1 != (k : Int) + 1) = false := by simp
        have qb : ((k : Int) + 1 != if rt % 21 < (k : Int) then rt % 21 + 1 else (k : Int) + 1) = false := by rw [if_neg (by omega)]; simp
        have OK2 := Lib.hid (pok_timeout HOK.out (Int.le_refl 0))
        have we : IntKind.i64.wrap (rt % 21 + 1) = rt % 21 + 1 := IntWalk.i64_in _ (by omega)
        go_wp2_with fail
        go_region_held3 (fun w' => w'.cell? ⟨cb, 12, none⟩ = some (.int .i64 (rt % 21))) (first | (simp [go_sem, *]; done) | assumption) (first
          | (go_at_call 17; refine (ptimeout_any st HOK.out (Int.le_refl 0) p _ (by exact H1.out.drew)).mono ?_; rintro e w4 ⟨rfl, o4, t4⟩; rw [HTB.out]; have c4 := turned_cell t4 (by exact c12) hcp; have O4 := Lib.hid o4; have T4 := Lib.hid t4; clear o4 t4)
          | (go_at_call 16; refine (active_any st.timeout p _ O4.out).mono ?_; rintro e w5 ⟨rfl, n5, rfl⟩; rw [HAC.out]; have c5 := turned_cell (turned_drewN w4 n5 []) c4 (by simp))
          | (go_at_call 18; refine (fail_any st.timeout p _ (O4.out.drewN n5)).mono ?_; rintro e w6 ⟨rfl, rfl⟩; rw [HBD.out])
          | (go_at_call 13; refine (psize_any st.timeout p _ (O4.out.drewN n5)).mono ?_; rintro e w7 ⟨rfl, rfl⟩; rw [HSZ.out]))
        all_goals clear we
        all_goals have HB4 := Lib.hid (below_drewN n5 (below_path HB.out.drew T4.out I2.out hlo))
        all_goals have C4 := Lib.hid ((C1.out.past T4.out hcp).drewN n5)
        all_goals go_wp2_with fail
        all_goals go_roundw
        all_goals first
          | (case rel => exact ⟨k + 1, st.timeout, by omega, by go_num, OK2.out, by rw [timeout_bad, HBAD.out, HMAY.out]; push_cast; omega, HMAY.out, HMTU.out, O4.out.drewN n5, C4.out, HB4.out⟩)
          | (simp [intOf]; omega)
          | (exfalso; omega)
      · have hB1 : rt % 21 < (k : Int) := by omega
        clear hB hA
        have HTB := Lib.hid (show st.timeoutB = false by rw [timeoutB_eq, HBAD.out, HMAY.out]; simp; omega)
        have HAC := Lib.hid (show st.timeout.act = false by rw [timeout_act, HBAD.out, HMAY.out]; simp; omega)
        have HBD := Lib.hid (show st.timeout.bad = rt % 21 + 1 by rw [timeout_bad, HBAD.out, HMAY.out]; omega)
        have HSZ := Lib.hid (show st.timeout.s.size = 128 from HMTU.out)
        have q1 : ((k : Int) + 1 == rt % 21 + 1) = false := by simp; omega
        have q1' : ((k : Int) == rt % 21) = false := by simp; omega
        have q1'' : decide ((k : Int) = rt % 21) = false := by simp; omega
        have q2 : decide ((k : Int) + 1 ≤ rt % 21) = false := by simp; omega
        have q2' : decide ((k : Int) < rt % 21) = false := by simp; omega
        have q3 : (rt % 21 + 1 != rt % 21 + 1) = false := by simp
        have OK2 := Lib.hid (pok_timeout HOK.out (Int.le_refl 0))
        have we : IntKind.i64.wrap (rt % 21 + 1) = rt % 21 + 1 := IntWalk.i64_in _ (by omega)
        go_wp2_with fail
        go_region_held3 (fun w' => w'.cell? ⟨cb, 12, none⟩ = some (.int .i64 (rt % 21))) (first | (simp [go_sem, *]; done) | assumption) (first
          | (go_at_call 17; refine (ptimeout_any st HOK.out (Int.le_refl 0) p _ (by exact H1.out.drew)).mono ?_; rintro e w4 ⟨rfl, o4, t4⟩; rw [HTB.out]; have c4 := turned_cell t4 (by exact c12) hcp; have O4 := Lib.hid o4; have T4 := Lib.hid t4; clear o4 t4)
          | (go_at_call 16; refine (active_any st.timeout p _ O4.out).mono ?_; rintro e w5 ⟨rfl, n5, rfl⟩; rw [HAC.out]; have c5 := turned_cell (turned_drewN w4 n5 []) c4 (by simp))
          | (go_at_call 18; refine (fail_any st.timeout p _ (O4.out.drewN n5)).mono ?_; rintro e w6 ⟨rfl, rfl⟩; rw [HBD.out])
          | (go_at_call 13; refine (psize_any st.timeout p _ (O4.out.drewN n5)).mono ?_; rintro e w7 ⟨rfl, rfl⟩; rw [HSZ.out]))
        all_goals clear we
        all_goals have HB4 := Lib.hid (below_drewN n5 (below_path HB.out.drew T4.out I2.out hlo))
        all_goals have C4 := Lib.hid ((C1.out.past T4.out hcp).drewN n5)
        all_goals go_wp2_with fail
        all_goals go_roundw
        all_goals first
          | (case rel => exact ⟨k + 1, st.timeout, by omega, by go_num, OK2.out, by rw [timeout_bad, HBAD.out, HMAY.out]; push_cast; omega, HMAY.out, HMTU.out, O4.out.drewN n5, C4.out, HB4.out⟩)
          | (simp [intOf]; omega)
          | (exfalso; omega)
    · have hlt2 : ¬ (k : Int) + 1 ≤ (M : Int) % 61 := by omega
      have HZ := Lib.hid (show st.answered.bad = 0 from rfl)
      have HY := Lib.hid (show st.answered.act = true by unfold PS.act PS.answered; simp only; rw [HMAY.out]; simp; omega)
      go_wp2_with fail
      refine (answered_any st p _ H1.out).mono ?_
      rintro e w4 ⟨rfl, o4, t4⟩
      have O4 := Lib.hid o4
      have HB4 := Lib.hid (below_path HB.out t4 I2.out hlo)
      clear o4 t4
      go_wp2_with fail
      refine (active_any st.answered p _ O4.out).mono ?_
      rintro e w5 ⟨rfl, n5, rfl⟩
      rw [HY.out]
      go_wp2_with fail
      refine (fail_any st.answered p _ (O4.out.drewN n5)).mono ?_
      rintro e w6 ⟨rfl, rfl⟩
      rw [HZ.out]
      go_wp2_with (go_at_call 9; refine (works_any _).mono ?_; rintro e w9 ⟨rfl, g9⟩)
      go_ret
      exact ⟨rfl, below_none (below_drewN n5 HB4.out) g9⟩
end Go.Proofs.Ytfboihbanehgcaa
