/- The walk of PathRests. No condition. -/
import Derived.Test.YtfboihbanehgcaaPathWorks
namespace Go.Proofs.Ytfboihbanehgcaa
open Go.RowKit Go.ChangeShapes Go.WideShapes Go.Deep
set_option linter.unusedVariables false
set_option linter.unusedSimpArgs false

theorem step_m (x : PS) (o : OP) : (x.step o).r.m = x.r.m := by
  unfold PS.step PS.answered PS.sample PS.timeout PS.beat' PS.beat1 PS.failed PS.fails PS.withS PS.withR PS.beaten PS.answered PS.sample PS.withOpen PS.withNext PS.withR
  repeat' split
  all_goals rfl
theorem step_mtu (x : PS) (o : OP) : (x.step o).s.mtu = x.s.mtu := by
  have ha : ∀ (n : Int) (f : Bool), (x.s.acked n f).mtu = x.s.mtu := by
    intro n f
    unfold WS.acked WS.grow WS.avoid WS.slow WS.cap
    repeat' split
    all_goals rfl
  unfold PS.step PS.answered PS.sample PS.timeout PS.beat' PS.beat1 PS.failed PS.fails PS.withS PS.withR PS.beaten PS.answered PS.sample PS.withOpen PS.withNext PS.withR
  repeat' split
  all_goals first | exact ha _ _ | rfl
theorem step_rv (x : PS) (o : OP) (h : o.k = 0 ∨ o.k = 2 ∨ o.k = 3) : (x.step o).r.v = x.r.v := by
  unfold PS.step
  rcases h with h | h | h <;> rw [h] <;> rfl
theorem step_sz (x : PS) (o : OP) (h : o.k = 1 ∨ o.k = 5 ∨ o.k = 6) : (x.step o).s.size = x.s.size := by
  unfold PS.step
  rcases h with h | h | h
  · rw [h]; simp; unfold PS.sample PS.withR; split <;> rfl
  · rw [h]; simp; unfold PS.beat' PS.beat1 PS.failed PS.fails PS.withOpen PS.withNext; repeat' split
    all_goals rfl
  · rw [h]; simp; unfold PS.beaten PS.answered PS.sample PS.withR; repeat' split
    all_goals rfl
theorem step_to (x : PS) (o : OP) (h : o.k = 4) (hm : x.r.m = 60) (hs : x.s.mtu = 128) : (x.step o).r.v = min (2 * x.r.v) 60 ∧ (x.step o).s.size = 128 := by
  unfold PS.step
  rw [h]
  simp
  exact ⟨by show min (2 * x.r.v) x.r.m = _; rw [hm], hs⟩

def QRel (W : World) (p : PP) (n : Nat) (i : Value) (wr : World) : Prop :=
  ∃ (k : Nat) (st : PS), k ≤ n ∧ i = .int .i64 (k : Int) ∧ st.ok (k * 16777216) ∧ st.r.m = 60 ∧ st.s.mtu = 128 ∧ isPath wr p st ∧ Below W.heap.size W wr

set_option maxRecDepth 100000 in
set_option maxHeartbeats 8000000 in
theorem rests_good (rt : Int) (hrt : 0 ≤ rt ∧ rt ≤ 255) (v : Value) (x : Nat × (Nat → OP)) (W : World) (ho : Ops W v x) (hn : x.1 ≤ 300) :
    Calls Try.prog 3 #[.int .u8 rt, v] W fun e w' => e = .returned (.bool true) ∧ Below W.heap.size W w' := by
  obtain ⟨n, ops⟩ := x
  obtain ⟨⟨a, cap, rfl, hcap, hcap2, hsl⟩, hts⟩ := ho
  simp only at hn hts hsl hcap
  have HSL := Lib.hid hsl
  have HTS := Lib.hid hts
  clear hsl hts
  have P21 := Lib.hid (plain_fits rt 0 (by decide))
  have HI := Lib.hid (pok_init P21.out)
  have HB0 := Lib.hid (Below.refl W.heap.size W)
  go_enter Try.func3, Try.ntmps3
  go_wp2_with fail
  refine (plain_any rt hrt _).mono ?_
  rintro e w1 ⟨rfl, g1⟩
  have HB1 := Lib.hid (below_none HB0.out g1)
  have Z1 := g1.size
  clear g1
  go_wp2_with fail
  refine (pnew_any (plain rt) 0 P21.out _).mono ?_
  rintro e w2 ⟨p, rfl, o2, i2, g2⟩
  have O2 := Lib.hid o2
  have I2 := Lib.hid i2
  have HB2 := Lib.hid (below_none HB1.out g2)
  clear o2 i2 g2
  go_wp2_with fail
  go_loopw [7, 8, 9] (fun i _ _ wr => QRel W p n i wr) (fun i _ _ _ => n - (intOf i).toNat)
  case atStart => exact ⟨0, _, Nat.zero_le _, rfl, HI.out, rfl, rfl, O2.out, HB2.out⟩
  case round =>
    obtain ⟨k, st, hk, rfl, hok, hm, hmtu, h1, hbel⟩ := hrel
    have HOK := Lib.hid hok
    have HM := Lib.hid hm
    have HMT := Lib.hid hmtu
    have H1 := Lib.hid h1
    have HB := Lib.hid hbel
    have kv := rv_bd hok.2.2.2.2.2.2.2.2.1
    clear hok h1 hbel hm hmtu
    by_cases hlt : k < n
    · rcases HSL.out with h0 | ⟨b, off, rfl, hb, hc⟩
      · omega
      have hr0 := sl_cell (hc k 0 hlt (by decide)) hb HB.out
      have hr1 := sl_cell (hc k 1 hlt (by decide)) hb HB.out
      have hr2 := sl_cell (hc k 2 hlt (by decide)) hb HB.out
      have hr3 := sl_cell (hc k 3 hlt (by decide)) hb HB.out
      have hr4 := sl_cell (hc k 4 hlt (by decide)) hb HB.out
      simp at hr0 hr1 hr2 hr3 hr4
      have OKO := Lib.hid (HTS.out k hlt)
      have OK2 := Lib.hid (pok_more (q := ((k + 1 : Nat) : Int) * 16777216) (pok_step HOK.out (by omega) (ops k)) (by omega))
      have M2 := Lib.hid ((step_m st (ops k)).trans HM.out)
      have MT2 := Lib.hid ((step_mtu st (ops k)).trans HMT.out)
      have n1 : b ∉ p.L := by have := I2.out; unfold PP.within at this; simp [PP.L]; omega
      clear hc
      go_wp2_with fail
      refine (rto_any st p _ H1.out).mono ?_
      rintro e w3 ⟨rfl, g3⟩
      have H3 := Lib.hid (H1.out.stay (turned_none g3))
      have HB3 := Lib.hid (below_none HB.out g3)
      have q0 := turned_cell (turned_none (L := []) g3) hr0 (by simp)
      have q1 := turned_cell (turned_none (L := []) g3) hr1 (by simp)
      have q2 := turned_cell (turned_none (L := []) g3) hr2 (by simp)
      have q3 := turned_cell (turned_none (L := []) g3) hr3 (by simp)
      have q4 := turned_cell (turned_none (L := []) g3) hr4 (by simp)
      clear g3
      go_wp2_with fail
      refine (psize_any st p _ H3.out).mono ?_
      rintro e w9 ⟨rfl, rfl⟩
      go_wp2_with fail
      refine (does_any st HOK.out (by omega) (by omega) (ops k) OKO.out p _ H3.out).mono ?_
      rintro e w4 ⟨rfl, o4, t4⟩
      have z0 := turned_cell t4 q0 n1
      have O4 := Lib.hid o4
      have HB4 := Lib.hid (below_path HB3.out t4 I2.out (by omega))
      clear o4 t4 q0 q1 q2 q3 q4 hr0 hr1 hr2 hr3 hr4
      by_cases hA : (ops k).k = 0 ∨ (ops k).k = 2 ∨ (ops k).k = 3
      · have e1 : ((st.step (ops k)).r.v != st.r.v) = false := by rw [step_rv st (ops k) hA]; simp
        rcases hA with h | h | h
        all_goals rw [h] at z0
        all_goals clear h
        all_goals go_wp2_with fail
        all_goals refine (rto_any (st.step (ops k)) p _ O4.out).mono ?_
        all_goals rintro e w5 ⟨rfl, g5⟩
        all_goals have O5 := Lib.hid (O4.out.stay (turned_none g5))
        all_goals have HB5 := Lib.hid (below_none HB4.out g5)
        all_goals clear g5
        all_goals go_wp2_with fail
        all_goals go_roundw
        all_goals first
          | (case rel => exact ⟨k + 1, _, by omega, by go_num, OK2.out, M2.out, MT2.out, O5.out, HB5.out⟩)
          | (simp [intOf]; omega)
      by_cases hB : (ops k).k = 4
      · have e0 := step_to st (ops k) hB HM.out HMT.out
        rw [hB] at z0
        by_cases hbig : 60 < 2 * st.r.v
        · have e1 : ((st.step (ops k)).r.v != 60) = false := by rw [e0.1]; simp; omega
          have e2 : ((st.step (ops k)).s.size != 128) = false := by rw [e0.2]; simp
          clear hA hB e0
          go_wp2_with fail
          refine (rto_any (st.step (ops k)) p _ O4.out).mono ?_
          rintro e w5 ⟨rfl, g5⟩
          have O5 := Lib.hid (O4.out.stay (turned_none g5))
          have HB5 := Lib.hid (below_none HB4.out g5)
          clear g5
          go_wp2_with fail
          refine (psize_any (st.step (ops k)) p _ O5.out).mono ?_
          rintro e w9 ⟨rfl, rfl⟩
          go_wp2_with fail
          go_roundw
          case rel => exact ⟨k + 1, _, by omega, by go_num, OK2.out, M2.out, MT2.out, O5.out, HB5.out⟩
          case measure => simp [intOf]; omega
        · have e1 : ((st.step (ops k)).r.v != 2 * st.r.v) = false := by rw [e0.1]; simp; omega
          have e2 : ((st.step (ops k)).s.size != 128) = false := by rw [e0.2]; simp
          clear hA hB e0
          go_wp2_with fail
          refine (rto_any (st.step (ops k)) p _ O4.out).mono ?_
          rintro e w5 ⟨rfl, g5⟩
          have O5 := Lib.hid (O4.out.stay (turned_none g5))
          have HB5 := Lib.hid (below_none HB4.out g5)
          clear g5
          go_wp2_with fail
          refine (psize_any (st.step (ops k)) p _ O5.out).mono ?_
          rintro e w9 ⟨rfl, rfl⟩
          go_wp2_with fail
          go_roundw
          case rel => exact ⟨k + 1, _, by omega, by go_num, OK2.out, M2.out, MT2.out, O5.out, HB5.out⟩
          case measure => simp [intOf]; omega
      by_cases hC : (ops k).k = 1 ∨ (ops k).k = 5 ∨ (ops k).k = 6
      · have e1 : ((st.step (ops k)).s.size != st.s.size) = false := by rw [step_sz st (ops k) hC]; simp
        clear hA hB
        rcases hC with h | h | h
        all_goals rw [h] at z0
        all_goals clear h
        all_goals go_wp2_with fail
        all_goals refine (psize_any (st.step (ops k)) p _ O4.out).mono ?_
        all_goals rintro e w9 ⟨rfl, rfl⟩
        all_goals go_wp2_with fail
        all_goals go_roundw
        all_goals first
          | (case rel => exact ⟨k + 1, _, by omega, by go_num, OK2.out, M2.out, MT2.out, O4.out, HB4.out⟩)
          | (simp [intOf]; omega)
      · have f0 : ((ops k).k == 0) = false := by simp; omega
        have f1 : ((ops k).k == 1) = false := by simp; omega
        have f2 : ((ops k).k == 2) = false := by simp; omega
        have f3 : ((ops k).k == 3) = false := by simp; omega
        have f4 : ((ops k).k == 4) = false := by simp; omega
        have f5 : ((ops k).k == 5) = false := by simp; omega
        have f6 : ((ops k).k == 6) = false := by simp; omega
        clear hA hB hC
        go_wp2_with fail
        go_roundw
        case rel => exact ⟨k + 1, _, by omega, by go_num, OK2.out, M2.out, MT2.out, O4.out, HB4.out⟩
        case measure => simp [intOf]; omega
    · go_wp2_with (go_at_call 9; refine (works_any _).mono ?_; rintro e w9 ⟨rfl, g9⟩)
      go_ret
      exact ⟨rfl, below_none HB.out g9⟩

theorem pathRests.walk (W : World) (rt : Int) (wr : (Lit.int .u8 rt).wf = true) (v : Value) (x : Nat × (Nat → OP)) (ho : Ops W v x) :
    Calls Try.prog 3 #[.int .u8 rt, v] W fun e w' => e = .returned (.bool true) ∧ Below W.heap.size W w' := by
  by_cases hn : x.1 ≤ 300
  · exact rests_good rt (bounds_u8 wr) v x W ho hn
  · obtain ⟨n, ops⟩ := x
    obtain ⟨⟨a, cap, rfl, hcap, hcap2, hsl⟩, hts⟩ := ho
    simp only at hn
    have hn2 : 300 < n := by omega
    clear hsl hts hn
    go_enter Try.func3, Try.ntmps3
    go_wp2_with (go_at_call 9; refine (works_any _).mono ?_; rintro e w9 ⟨rfl, g9⟩)
    go_ret
    exact ⟨rfl, below_none (Below.refl _ _) g9⟩
end Go.Proofs.Ytfboihbanehgcaa
