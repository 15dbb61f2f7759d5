/- The walk of WindowBounds. No condition. -/
import Derived.Test.YthhbdaophhidhaaWinPlays2
namespace Go.Proofs.Ythhbdaophhidhaa
open Go.RowKit Go.ChangeShapes Go.WideShapes Go.Deep
set_option linter.unusedVariables false
set_option linter.unusedSimpArgs false

theorem step_fix (x : WS) (kind n : Int) (full : Bool) : (x.step kind n full).mtu = x.mtu ∧ (x.step kind n full).most = x.most := by
  unfold WS.step
  split
  · unfold WS.acked WS.grow
    split
    · exact ⟨rfl, rfl⟩
    · split
      · unfold WS.avoid; split <;> exact ⟨rfl, rfl⟩
      · exact ⟨rfl, rfl⟩
  · split
    · exact ⟨rfl, rfl⟩
    · split <;> exact ⟨rfl, rfl⟩
theorem acked_bd {x : WS} {p : Int} (h : x.ok p) (n : Int) (full : Bool) : x.size ≤ (x.acked n full).size ∧ (x.acked n full).size ≤ x.size + x.mtu ∧ (x.acked n full).thresh = x.thresh ∧ (full = false → (x.acked n full).size = x.size) := by
  unfold WS.ok at h
  unfold WS.acked
  by_cases h1 : n < 1
  · rw [if_pos h1]; refine ⟨?_, ?_, rfl, fun _ => rfl⟩ <;> omega
  · rw [if_neg h1]
    unfold WS.grow
    by_cases h2 : x.thresh < x.size
    · rw [if_pos h2]
      unfold WS.avoid
      by_cases h3 : full = true ∧ x.size ≤ x.part + min n x.most
      · rw [if_pos h3]
        refine ⟨?_, ?_, rfl, fun hf => by rw [hf] at h3; exact absurd h3.1 (by decide)⟩ <;> simp only [WS.cap] <;> omega
      · rw [if_neg h3]
        refine ⟨?_, ?_, rfl, fun hf => ?_⟩ <;> simp only [WS.cap] <;> omega
    · rw [if_neg h2]
      cases full
      · refine ⟨?_, ?_, rfl, fun hf => ?_⟩ <;> simp [WS.cap, WS.slow] <;> omega
      · refine ⟨?_, ?_, rfl, fun hf => absurd hf (by decide)⟩ <;> simp [WS.cap, WS.slow] <;> omega

def BRel (W : World) (b1 n : Nat) (f l : Int) (i : Value) (wr : World) : Prop :=
  ∃ (k : Nat) (st : WS), k ≤ n ∧ i = .int .i64 (k : Int) ∧ st.ok (k * 16777216) ∧ (st.mtu = f ∧ st.most = l) ∧ obj wr b1 45 st.cells ∧ Below W.heap.size W wr

set_option maxRecDepth 100000 in
set_option maxHeartbeats 16000000 in
theorem bounds_good (f l : Int) (hf : wfits f l) (v : Value) (x : Nat × (Nat → Int) × (Nat → Int) × (Nat → Bool)) (W : World) (ho : Ops W v x) (hn : x.1 ≤ 500) :
    Calls Try.prog 4 #[.int .i64 f, .int .i64 l, v] W fun e w' => e = .returned (.bool true) ∧ Below W.heap.size W w' := by
  obtain ⟨n, ks, ts, us⟩ := x
  obtain ⟨⟨a, cap, rfl, hcap, hcap2, hsl⟩, hts⟩ := ho
  simp only at hn hts hsl hcap
  have HSL := Lib.hid hsl
  have HTS := Lib.hid hts
  have HF := Lib.hid hf
  have hfl : 128 ≤ f ∧ f ≤ 1500 ∧ l ≤ 16777216 := by unfold wfits at hf; omega
  clear hsl hts hf
  go_enter Try.func4, Try.ntmps4
  go_wp2_with fail
  refine (wnew_any f l HF.out _).mono ?_
  rintro e w1 ⟨rfl, o1, g1⟩
  have O1 := Lib.hid o1
  have G1 := Lib.hid g1
  clear o1 g1
  go_wp2_with fail
  have hlt1 := O1.out.lt
  go_loopw [9] (fun i wr => BRel W W.heap.size n f l i wr) (fun i _ => n - (intOf i).toNat)
  case atStart => exact ⟨0, WS.init f l, Nat.zero_le _, rfl, wok_init HF.out (by omega), ⟨rfl, rfl⟩, O1.out, below_none (Below.refl _ _) G1.out⟩
  case round =>
    obtain ⟨k, st, hk, rfl, hok, hfx, h1, hbel⟩ := hrel
    have HOK := Lib.hid hok
    have HFX := Lib.hid hfx
    have H1 := Lib.hid h1
    have HB := Lib.hid hbel
    clear h1 hbel hfx
    by_cases hlt : k < n
    · rcases HSL.out with h0 | ⟨b, off, rfl, hb, hc⟩
      · omega
      have hr0 := sl_cell (hc k 0 hlt (by decide)) hb HB.out
      have hr1 := sl_cell (hc k 1 hlt (by decide)) hb HB.out
      have hr2 := sl_cell (hc k 2 hlt (by decide)) hb HB.out
      simp at hr0 hr1 hr2
      have ht := (HTS.out k hlt).2
      have hbne : b ≠ W.heap.size := by omega
      clear hc
      have HOK2 := Lib.hid (wok_step HOK.out (by omega) (ks k) (ts k) (us k))
      have HFX2 := Lib.hid (show (st.step (ks k) (ts k) (us k)).mtu = f ∧ (st.step (ks k) (ts k) (us k)).most = l from ⟨(step_fix st _ _ _).1.trans HFX.out.1, (step_fix st _ _ _).2.trans HFX.out.2⟩)
      have bd : f ≤ (st.step (ks k) (ts k) (us k)).size ∧ (st.step (ks k) (ts k) (us k)).size ≤ l ∧ 4 * f ≤ (st.step (ks k) (ts k) (us k)).thresh ∧ (st.step (ks k) (ts k) (us k)).thresh ≤ l := by
        have a1 := HFX2.out; have a2 := HOK2.out; unfold WS.ok at a2; omega
      have bo : f ≤ st.size ∧ st.size ≤ l := by have a1 := HFX.out; unfold WS.ok at hok; omega
      have HS : Hid (∃ sn, sn = st.step (ks k) (ts k) (us k)) := ⟨_, rfl⟩
      have AB := Lib.hid (acked_bd hok (ts k) (us k))
      clear hok
      go_wp2_with fail
      refine (size_any st _ _ H1.out).mono ?_
      rintro e x1 ⟨rfl, rfl⟩
      go_wp2_with fail
      refine (thresh_any st _ _ H1.out).mono ?_
      rintro e x2 ⟨rfl, rfl⟩
      go_wp2_with fail
      refine (does_any st HOK.out (by omega) _ (ks k) (ts k) ht.2 (us k) _ H1.out).mono ?_
      rintro e w3 ⟨rfl, o3, g3⟩
      have O3 := Lib.hid o3
      have G3 := Lib.hid g3
      have q0 := only_cell g3 hr0 hbne
      have q1 := only_cell g3 hr1 hbne
      have q2 := only_cell g3 hr2 hbne
      have HB3 := Lib.hid (below_only HB.out g3 (Nat.le_refl _))
      clear o3 g3
      generalize hst : st.step (ks k) (ts k) (us k) = sn at *
      have HST := Lib.hid hst
      clear hst
      go_wp2_with fail
      refine (size_any sn _ _ O3.out).mono ?_
      rintro e x3 ⟨rfl, rfl⟩
      go_wp2_with fail
      refine (size_any sn _ _ O3.out).mono ?_
      rintro e x4 ⟨rfl, rfl⟩
      go_wp2_with fail
      refine (thresh_any sn _ _ O3.out).mono ?_
      rintro e x5 ⟨rfl, rfl⟩
      go_wp2_with fail
      refine (thresh_any sn _ _ O3.out).mono ?_
      rintro e x6 ⟨rfl, rfl⟩
      by_cases k0 : ks k = 0
      · have e : sn = st.acked (ts k) (us k) := by rw [← HST.out]; unfold WS.step; exact if_pos k0
        have ab := AB.out
        rw [← e, HFX.out.1] at ab
        rw [k0] at q0
        obtain ⟨ab1, ab2, ab3, ab4⟩ := ab
        have ab5 : (sn.thresh != st.thresh) = false := by simp [ab3]
        clear e k0 ab3
        cases hu : us k
        · have ab6 : (sn.size != st.size) = false := by simp [ab4 hu]
          rw [hu] at q2
          clear ab4 hu
          go_wp2_with fail
          refine (size_any sn _ _ O3.out).mono ?_
          rintro e x7 ⟨rfl, rfl⟩
          go_wp2_with fail
          refine (size_any sn _ _ O3.out).mono ?_
          rintro e x8 ⟨rfl, rfl⟩
          go_wp2_with fail
          refine (thresh_any sn _ _ O3.out).mono ?_
          rintro e x9 ⟨rfl, rfl⟩
          go_wp2_with fail
          refine (size_any sn _ _ O3.out).mono ?_
          rintro e x10 ⟨rfl, rfl⟩
          go_wp2_with fail
          go_roundw
          case rel => exact ⟨k + 1, sn, by omega, by go_num, wok_more HOK2.out (by omega), HFX2.out, O3.out, HB3.out⟩
          case measure => simp [intOf]; omega
        · rw [hu] at q2
          clear ab4 hu
          go_wp2_with fail
          refine (size_any sn _ _ O3.out).mono ?_
          rintro e x11 ⟨rfl, rfl⟩
          go_wp2_with fail
          refine (size_any sn _ _ O3.out).mono ?_
          rintro e x12 ⟨rfl, rfl⟩
          go_wp2_with fail
          refine (thresh_any sn _ _ O3.out).mono ?_
          rintro e x13 ⟨rfl, rfl⟩
          go_wp2_with fail
          go_roundw
          case rel => exact ⟨k + 1, sn, by omega, by go_num, wok_more HOK2.out (by omega), HFX2.out, O3.out, HB3.out⟩
          case measure => simp [intOf]; omega
      · by_cases k1 : ks k = 1
        · have e : sn = st.fast := by rw [← HST.out]; unfold WS.step; rw [if_neg k0]; exact if_pos k1
          have ab1 : sn.size ≤ st.size := by rw [e]; simp only [WS.fast]; omega
          have ab2 : sn.size ≤ sn.thresh := by rw [e]; simp only [WS.fast]; omega
          rw [k1] at q0
          clear e k0 k1
          go_wp2_with fail
          refine (size_any sn _ _ O3.out).mono ?_
          rintro e x14 ⟨rfl, rfl⟩
          go_wp2_with fail
          refine (size_any sn _ _ O3.out).mono ?_
          rintro e x15 ⟨rfl, rfl⟩
          go_wp2_with fail
          refine (thresh_any sn _ _ O3.out).mono ?_
          rintro e x16 ⟨rfl, rfl⟩
          go_wp2_with fail
          go_roundw
          case rel => exact ⟨k + 1, sn, by omega, by go_num, wok_more HOK2.out (by omega), HFX2.out, O3.out, HB3.out⟩
          case measure => simp [intOf]; omega
        · by_cases k2 : ks k = 2
          · have e : sn = st.timeout := by rw [← HST.out]; unfold WS.step; rw [if_neg k0, if_neg k1]; exact if_pos k2
            have ab1 : (sn.size != f) = false := by rw [e]; simp [WS.timeout, HFX.out.1]
            rw [k2] at q0
            clear e k0 k1 k2
            go_wp2_with fail
            refine (size_any sn _ _ O3.out).mono ?_
            rintro e x17 ⟨rfl, rfl⟩
            go_wp2_with fail
            go_roundw
            case rel => exact ⟨k + 1, sn, by omega, by go_num, wok_more HOK2.out (by omega), HFX2.out, O3.out, HB3.out⟩
            case measure => simp [intOf]; omega
          · have e : sn = st := by rw [← HST.out]; unfold WS.step; rw [if_neg k0, if_neg k1, if_neg k2]
            have ab1 : (sn.size != st.size) = false := by rw [e]; simp
            have ab2 : (sn.thresh != st.thresh) = false := by rw [e]; simp
            have z0 : (ks k == 0) = false := by simpa using k0
            have z1 : (ks k == 1) = false := by simpa using k1
            have z2 : (ks k == 2) = false := by simpa using k2
            clear e k0 k1 k2
            go_wp2_with fail
            refine (size_any sn _ _ O3.out).mono ?_
            rintro e x18 ⟨rfl, rfl⟩
            go_wp2_with fail
            refine (thresh_any sn _ _ O3.out).mono ?_
            rintro e x19 ⟨rfl, rfl⟩
            go_wp2_with fail
            go_roundw
            case rel => exact ⟨k + 1, sn, by omega, by go_num, wok_more HOK2.out (by omega), HFX2.out, O3.out, HB3.out⟩
            case measure => simp [intOf]; omega
    · clear hok
      go_wp2_with (go_at_call 9; refine (works_any _).mono ?_; rintro e w99 ⟨rfl, g99⟩)
      go_ret
      exact ⟨rfl, below_none HB.out g99⟩

theorem windowBounds.walk (W : World) (f : Int) (wf : (Lit.int .i64 f).wf = true) (l : Int) (wl : (Lit.int .i64 l).wf = true) (v : Value) (x : Nat × (Nat → Int) × (Nat → Int) × (Nat → Bool)) (ho : Ops W v x) :
    Calls Try.prog 4 #[.int .i64 f, .int .i64 l, v] W fun e w' => e = .returned (.bool true) ∧ Below W.heap.size W w' := by
  by_cases hf : wfits f l
  · by_cases hn : x.1 ≤ 500
    · exact bounds_good f l hf v x W ho hn
    · obtain ⟨n, ks, ts, us⟩ := x
      obtain ⟨⟨a, cap, rfl, hcap, hcap2, hsl⟩, hts⟩ := ho
      simp only at hn
      have hn2 : 500 < n := by omega
      have HF := Lib.hid hf
      clear hsl hts hn hf
      go_enter Try.func4, Try.ntmps4
      go_wp2_with fail
      refine (wnew_any f l HF.out _).mono ?_
      rintro e w1 ⟨rfl, o1, g1⟩
      have O1 := Lib.hid o1
      have G1 := Lib.hid g1
      clear o1 g1
      go_wp2_with (go_at_call 9; refine (works_any _).mono ?_; rintro e w99 ⟨rfl, g99⟩)
      go_ret
      exact ⟨rfl, below_none (below_none (Below.refl _ _) G1.out) g99⟩
  · obtain ⟨n, ks, ts, us⟩ := x
    obtain ⟨⟨a, cap, rfl, hcap, hcap2, hsl⟩, hts⟩ := ho
    have HF := Lib.hid hf
    have HBD := Lib.hid (bounds_i64 wf)
    clear hsl hts hf wf wl
    go_enter Try.func4, Try.ntmps4
    go_wp2_with fail
    refine (wnew_any_bad f l HBD.out HF.out _).mono ?_
    rintro e x20 ⟨rfl, rfl⟩
    go_wp2_with (go_at_call 9; refine (works_any _).mono ?_; rintro e w99 ⟨rfl, g99⟩)
    go_ret
    exact ⟨rfl, below_none (Below.refl _ _) g99⟩
end Go.Proofs.Ythhbdaophhidhaa
