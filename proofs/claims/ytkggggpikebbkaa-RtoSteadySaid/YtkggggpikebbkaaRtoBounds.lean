/- The walks of RtoBounds, RtoLater, RtoFirst, RtoNil. No condition. -/
import Derived.Test.YtkggggpikebbkaaRtoPlays
namespace Go.Proofs.Ytkggggpikebbkaa
open Go.RowKit Go.ChangeShapes Go.WideShapes Go.Deep
set_option linter.unusedVariables false
set_option linter.unusedSimpArgs false

theorem back_lm (x : RS) : x.back.l = x.l ∧ x.back.m = x.m := ⟨rfl, rfl⟩
theorem sample_lm (x : RS) (t : Int) : (x.sample t).l = x.l ∧ (x.sample t).m = x.m ∧ (x.sample t).any = true := ⟨rfl, rfl, rfl⟩
/-- The value behind a sample is not below the smoothed time, where the bounds let it. -/
theorem sample_v {x : RS} (h : x.ok) {t : Int} (ht : 0 ≤ t) : min (x.sample t).smooth x.m ≤ (x.sample t).v ∧ 0 ≤ (x.sample t).smooth ∧ (x.sample t).smooth ≤ 1048576 := by
  have h1 := ns_bd h ht
  have h2 := ny_bd h ht
  unfold RS.ok at h
  simp only [RS.smooth, RS.sample, if_true, clamp]
  omega

def BRel (W : World) (b1 n : Nat) (l m : Int) (i : Value) (wr : World) : Prop :=
  ∃ (k : Nat) (st : RS), k ≤ n ∧ i = .int .i64 (k : Int) ∧ st.ok ∧ st.l = l ∧ st.m = m ∧ obj wr b1 45 st.cells ∧ Below W.heap.size W wr

set_option maxRecDepth 100000 in
set_option maxHeartbeats 8000000 in
theorem bounds_good (f l m : Int) (hf : fits f l m) (v : Value) (x : Nat × (Nat → Bool) × (Nat → Int)) (W : World) (ho : Ops W v x) (hn : x.1 ≤ 500) :
    Calls Try.prog 4 #[.int .i64 f, .int .i64 l, .int .i64 m, v] W fun e w' => e = .returned (.bool true) ∧ Below W.heap.size W w' := by
  obtain ⟨n, bk, ts⟩ := x
  obtain ⟨⟨a, cap, rfl, hcap, hcap2, hsl⟩, hts⟩ := ho
  simp only at hn hts hsl hcap
  have HSL := Lib.hid hsl
  have HTS := Lib.hid hts
  have HF := Lib.hid hf
  clear hsl hts hf
  go_enter Try.func4, Try.ntmps4
  go_wp2_with fail
  refine (new_any f l m HF.out _).mono ?_
  rintro e w1 ⟨rfl, o1, g1⟩
  have O1 := Lib.hid o1
  have G1 := Lib.hid g1
  clear o1 g1
  go_wp2_with fail
  go_loopw [11] (fun i wr => BRel W W.heap.size n l m i wr) (fun i _ => n - (intOf i).toNat)
  case atStart => exact ⟨0, RS.init f l m, Nat.zero_le _, rfl, ok_init HF.out, rfl, rfl, O1.out, below_none (Below.refl _ _) G1.out⟩
  case round =>
    obtain ⟨k, st, hk, rfl, hok, hl, hm, h1, hbel⟩ := hrel
    have HOK := Lib.hid hok
    have HL := Lib.hid hl
    have HM := Lib.hid hm
    have H1 := Lib.hid h1
    have HB := Lib.hid hbel
    clear hl hm h1 hbel
    by_cases hlt : k < n
    · rcases HSL.out with h0 | ⟨b, off, rfl, hb, hc⟩
      · omega
      have hc0 := hc k 0 hlt (by decide)
      have hc1 := hc k 1 hlt (by decide)
      have hr0 := sl_cell hc0 hb HB.out
      have hr1 := sl_cell hc1 hb HB.out
      simp only [Nat.add_zero] at hr0 hr1
      simp at hr0 hr1
      have ht := HTS.out k hlt
      have hbne : b ≠ W.heap.size := by omega
      have q1 : 1 ≤ st.v ∧ st.v ≤ 1048576 ∧ l ≤ st.v ∧ st.v ≤ m ∧ m ≤ 1048576 := by
        have a1 := HL.out; have a2 := HM.out; unfold RS.ok at hok; omega
      clear hok
      cases hbk : bk k
      · rw [hbk] at hr0
        clear hc hc0 hc1 hbk
        go_wp2_with fail
        refine (value_any st _ _ H1.out).mono ?_
        rintro e x1 ⟨rfl, rfl⟩
        by_cases hneg : ts k < 0
        · have hge : ¬ 0 ≤ ts k := by omega
          go_wp2_with fail
          refine (sample_any_neg _ _ hneg _).mono ?_
          rintro e x2 ⟨rfl, rfl⟩
          go_wp2_with fail
          refine (smooth_any st HOK.out _ _ H1.out).mono ?_
          rintro e x3 ⟨rfl, rfl⟩
          go_wp2_with fail
          refine (value_any st _ _ H1.out).mono ?_
          rintro e x4 ⟨rfl, rfl⟩
          go_wp2_with fail
          refine (value_any st _ _ H1.out).mono ?_
          rintro e x5 ⟨rfl, rfl⟩
          go_wp2_with fail
          go_roundw
          case rel => exact ⟨k + 1, st, by omega, by go_num, HOK.out, HL.out, HM.out, H1.out, HB.out⟩
          case measure => simp [intOf]; omega
        · have hpos : 0 ≤ ts k := by omega
          have HOK2 := Lib.hid (ok_sample HOK.out hpos)
          have hv := sample_v HOK.out hpos
          rw [HM.out] at hv
          have q2 : l ≤ (st.sample (ts k)).v ∧ (st.sample (ts k)).v ≤ m := by
            have a1 := HL.out; have a2 := HM.out; have a3 := HOK2.out; unfold RS.ok at a3; have := sample_lm st (ts k); omega
          have q3 : (st.sample (ts k)).any = true := rfl
          go_wp2_with fail
          refine (sample_any st HOK.out _ _ hpos ht.2 _ H1.out).mono ?_
          rintro e w3 ⟨rfl, o3, g3⟩
          have O3 := Lib.hid o3
          have G3 := Lib.hid g3
          clear o3 g3
          have HB' := Lib.hid (below_only HB.out G3.out (Nat.le_refl _))
          have hr2 := only_cell G3.out hr1 hbne
          generalize hst : st.sample (ts k) = sn at *
          have HST := Lib.hid hst
          have sv := hv.2.1
          clear hst
          by_cases hs : m < sn.smooth
          · have sw : m ≤ sn.v := by omega
            go_wp2_with fail
            refine (smooth_any sn HOK2.out _ _ O3.out).mono ?_
            rintro e x6 ⟨rfl, rfl⟩
            go_wp2_with fail
            refine (value_any sn _ _ O3.out).mono ?_
            rintro e x7 ⟨rfl, rfl⟩
            go_wp2_with fail
            refine (value_any sn _ _ O3.out).mono ?_
            rintro e x8 ⟨rfl, rfl⟩
            go_wp2_with fail
            refine (value_any sn _ _ O3.out).mono ?_
            rintro e x9 ⟨rfl, rfl⟩
            go_wp2_with fail
            go_roundw
            case rel => exact ⟨k + 1, sn, by omega, by go_num, HOK2.out, by rw [← HST.out]; exact HL.out, by rw [← HST.out]; exact HM.out, O3.out, HB'.out⟩
            case measure => simp [intOf]; omega
          · have sw : sn.smooth ≤ sn.v := by omega
            go_wp2_with fail
            refine (smooth_any sn HOK2.out _ _ O3.out).mono ?_
            rintro e x10 ⟨rfl, rfl⟩
            go_wp2_with fail
            refine (value_any sn _ _ O3.out).mono ?_
            rintro e x11 ⟨rfl, rfl⟩
            go_wp2_with fail
            refine (value_any sn _ _ O3.out).mono ?_
            rintro e x12 ⟨rfl, rfl⟩
            go_wp2_with fail
            refine (value_any sn _ _ O3.out).mono ?_
            rintro e x13 ⟨rfl, rfl⟩
            go_wp2_with fail
            go_roundw
            case rel => exact ⟨k + 1, sn, by omega, by go_num, HOK2.out, by rw [← HST.out]; exact HL.out, by rw [← HST.out]; exact HM.out, O3.out, HB'.out⟩
            case measure => simp [intOf]; omega
      · rw [hbk] at hr0
        clear hc hc0 hc1 hbk
        have HOK2 := Lib.hid (ok_back HOK.out)
        have q2 : l ≤ st.back.v ∧ st.back.v ≤ m := by
          have a1 := HL.out; have a2 := HM.out; have a3 := HOK2.out; unfold RS.ok at a3; have := back_lm st; omega
        have q3 : st.back.v = min (2 * st.v) m := by have a2 := HM.out; unfold RS.back; simp only; rw [a2]
        have Q3 := Lib.hid q3
        clear q3
        go_wp2_with fail
        refine (value_any st _ _ H1.out).mono ?_
        rintro e x14 ⟨rfl, rfl⟩
        go_wp2_with fail
        refine (back_any st HOK.out _ _ H1.out).mono ?_
        rintro e w3 ⟨rfl, o3, g3⟩
        have O3 := Lib.hid o3
        have G3 := Lib.hid g3
        clear o3 g3
        have HB' := Lib.hid (below_only HB.out G3.out (Nat.le_refl _))
        have hr2 := only_cell G3.out hr0 hbne
        generalize hst : st.back = sn at *
        have HST := Lib.hid hst
        clear hst
        by_cases hs : 2 * st.v ≤ m
        · have p1 : sn.v = 2 * st.v := by have := Q3.out; omega
          have p2 : (sn.v != 2 * st.v) = false := by simp [p1]
          have p3 : st.v ≤ sn.v := by omega
          have p4 : sn.v ≤ 2 * st.v := by omega
          clear p1
          go_wp2_with fail
          refine (value_any sn _ _ O3.out).mono ?_
          rintro e x15 ⟨rfl, rfl⟩
          go_wp2_with fail
          refine (value_any sn _ _ O3.out).mono ?_
          rintro e x16 ⟨rfl, rfl⟩
          go_wp2_with fail
          refine (value_any sn _ _ O3.out).mono ?_
          rintro e x17 ⟨rfl, rfl⟩
          go_wp2_with fail
          refine (value_any sn _ _ O3.out).mono ?_
          rintro e x18 ⟨rfl, rfl⟩
          go_wp2_with fail
          refine (value_any sn _ _ O3.out).mono ?_
          rintro e x19 ⟨rfl, rfl⟩
          go_wp2_with fail
          go_roundw
          case rel => exact ⟨k + 1, sn, by omega, by go_num, HOK2.out, by rw [← HST.out]; exact HL.out, by rw [← HST.out]; exact HM.out, O3.out, HB'.out⟩
          case measure => simp [intOf]; omega
        · have p1 : sn.v = m := by have := Q3.out; omega
          have p2 : (sn.v != m) = false := by simp [p1]
          have p5 : (sn.v != 2 * st.v) = true := by simp; omega
          have p3 : st.v ≤ sn.v := by omega
          have p4 : sn.v ≤ 2 * st.v := by omega
          clear p1
          go_wp2_with fail
          refine (value_any sn _ _ O3.out).mono ?_
          rintro e x20 ⟨rfl, rfl⟩
          go_wp2_with fail
          refine (value_any sn _ _ O3.out).mono ?_
          rintro e x21 ⟨rfl, rfl⟩
          go_wp2_with fail
          refine (value_any sn _ _ O3.out).mono ?_
          rintro e x22 ⟨rfl, rfl⟩
          go_wp2_with fail
          refine (value_any sn _ _ O3.out).mono ?_
          rintro e x23 ⟨rfl, rfl⟩
          go_wp2_with fail
          refine (value_any sn _ _ O3.out).mono ?_
          rintro e x24 ⟨rfl, rfl⟩
          go_wp2_with fail
          refine (value_any sn _ _ O3.out).mono ?_
          rintro e x25 ⟨rfl, rfl⟩
          go_wp2_with fail
          go_roundw
          case rel => exact ⟨k + 1, sn, by omega, by go_num, HOK2.out, by rw [← HST.out]; exact HL.out, by rw [← HST.out]; exact HM.out, O3.out, HB'.out⟩
          case measure => simp [intOf]; omega
    · clear hok
      go_wp2_with (go_at_call 9; refine (works_any _).mono ?_; rintro e w3 ⟨rfl, g3⟩)
      go_ret
      exact ⟨rfl, below_none HB.out g3⟩

theorem rtoBounds.walk (W : World) (f : Int) (wf : (Lit.int .i64 f).wf = true) (l : Int) (wl : (Lit.int .i64 l).wf = true) (m : Int) (wm : (Lit.int .i64 m).wf = true) (v : Value) (x : Nat × (Nat → Bool) × (Nat → Int)) (ho : Ops W v x) :
    Calls Try.prog 4 #[.int .i64 f, .int .i64 l, .int .i64 m, v] W fun e w' => e = .returned (.bool true) ∧ Below W.heap.size W w' := by
  by_cases hf : fits f l m
  · by_cases hn : x.1 ≤ 500
    · exact bounds_good f l m hf v x _ ho hn
    · obtain ⟨n, bk, ts⟩ := x
      obtain ⟨⟨a, cap, rfl, hcap, hcap2, hsl⟩, hts⟩ := ho
      simp only at hn
      have hn2 : 500 < n := by omega
      clear hsl hts hn
      have HF := Lib.hid hf
      clear hf
      go_enter Try.func4, Try.ntmps4
      go_wp2_with fail
      refine (new_any f l m HF.out _).mono ?_
      rintro e w1 ⟨rfl, o1, g1⟩
      have G1 := Lib.hid g1
      clear o1 g1
      go_wp2_with (go_at_call 9; refine (works_any _).mono ?_; rintro e w3 ⟨rfl, g3⟩)
      go_ret
      exact ⟨rfl, below_none (below_none (Below.refl _ _) G1.out) g3⟩
  · obtain ⟨n, bk, ts⟩ := x
    obtain ⟨⟨a, cap, rfl, hcap, hcap2, hsl⟩, hts⟩ := ho
    clear hsl hts
    have HF := Lib.hid hf
    clear hf
    go_enter Try.func4, Try.ntmps4
    go_wp2_with fail
    refine (new_any_bad f l m HF.out _).mono ?_
    rintro e w1 ⟨rfl, rfl⟩
    go_wp2_with (go_at_call 9; refine (works_any _).mono ?_; rintro e w3 ⟨rfl, g3⟩)
    go_ret
    exact ⟨rfl, below_none (Below.refl _ _) g3⟩
end Go.Proofs.Ytkggggpikebbkaa
