/- The walk of WindowHalves. No condition. -/
import Derived.Test.YthhbdaophhidhaaWinBounds
namespace Go.Proofs.Ythhbdaophhidhaa
open Go.RowKit Go.ChangeShapes Go.WideShapes Go.Deep
set_option linter.unusedVariables false
set_option linter.unusedSimpArgs false

set_option maxRecDepth 100000 in
set_option maxHeartbeats 16000000 in
theorem halves_good (f l : Int) (hf : wfits f l) (v : Value) (x : Nat × (Nat → Int) × (Nat → Int) × (Nat → Bool)) (tm : Bool) (W : World) (ho : Ops W v x) (hn : x.1 ≤ 500) :
    Calls Try.prog 7 #[.int .i64 f, .int .i64 l, v, .bool tm] W fun e w' => e = .returned (.bool true) ∧ Below W.heap.size W w' := by
  obtain ⟨n, ks, ts, us⟩ := x
  obtain ⟨⟨a, cap, rfl, hcap, hcap2, hsl⟩, hts⟩ := ho
  simp only at hn hts hsl hcap
  have HSL := Lib.hid hsl
  have HTS := Lib.hid hts
  have HF := Lib.hid hf
  have hfl : 128 ≤ f ∧ f ≤ 1500 ∧ l ≤ 16777216 := by unfold wfits at hf; omega
  clear hsl hts hf
  go_enter Try.func7, Try.ntmps7
  go_wp2_with fail
  refine (wnew_any f l HF.out _).mono ?_
  rintro e w1 ⟨rfl, o1, g1⟩
  have O1 := Lib.hid o1
  have G1 := Lib.hid g1
  clear o1 g1
  go_wp2_with fail
  have hlt1 := O1.out.lt
  go_loopw [11] (fun i wr => BRel W W.heap.size n f l i wr) (fun i _ => n - (intOf i).toNat)
  case atStart => exact ⟨0, WS.init f l, Nat.zero_le _, rfl, wok_init HF.out (by omega), ⟨rfl, rfl⟩, O1.out, below_none (Below.refl _ _) G1.out⟩
  case round =>
    obtain ⟨k, st, hk, rfl, hok, hfx, h1, hbel⟩ := hrel
    have HOK := Lib.hid hok
    have HFX := Lib.hid hfx
    have H1 := Lib.hid h1
    have HB := Lib.hid hbel
    clear h1 hbel hfx hok
    by_cases hlt : k < n
    · rcases HSL.out with h0 | ⟨b, off, rfl, hb, hc⟩
      · omega
      have hr0 := sl_cell (hc k 0 hlt (by decide)) hb HB.out
      have hr1 := sl_cell (hc k 1 hlt (by decide)) hb HB.out
      have hr2 := sl_cell (hc k 2 hlt (by decide)) hb HB.out
      simp at hr0 hr1 hr2
      have ht := (HTS.out k hlt).2
      clear hc
      have HOK2 := Lib.hid (wok_step HOK.out (by omega) (ks k) (ts k) (us k))
      have HFX2 := Lib.hid (show (st.step (ks k) (ts k) (us k)).mtu = f ∧ (st.step (ks k) (ts k) (us k)).most = l from ⟨(step_fix st _ _ _).1.trans HFX.out.1, (step_fix st _ _ _).2.trans HFX.out.2⟩)
      go_wp2_with fail
      refine (does_any st HOK.out (by omega) _ (ks k) (ts k) ht.2 (us k) _ H1.out).mono ?_
      rintro e w3 ⟨rfl, o3, g3⟩
      have O3 := Lib.hid o3
      have G3 := Lib.hid g3
      clear o3 g3
      go_wp2_with fail
      go_roundw
      case rel => exact ⟨k + 1, _, by omega, by go_num, wok_more HOK2.out (by omega), HFX2.out, O3.out, below_only HB.out G3.out (Nat.le_refl _)⟩
      case measure => simp [intOf]; omega
    · have so : f ≤ st.size ∧ st.size ≤ l ∧ 4 * f ≤ l := by have a1 := HFX.out; have a2 := HOK.out; unfold WS.ok at a2; omega
      have hz := HFX.out.1
      have HZ := Lib.hid hz
      clear hz
      by_cases hm : st.size / 2 < 4 * f
      · cases tm
        · by_cases hm2 : 4 * f < st.size
          · have X : True := trivial
            have t1 : (st.fast.thresh != 4 * f) = false := by simp only [WS.fast]; rw [HZ.out]; simp; omega
            have t1b : st.fast.thresh = 4 * f := by simp only [WS.fast]; rw [HZ.out]; omega
            have T1 := Lib.hid t1b
            clear t1b
            have HOK2 := Lib.hid (wok_fast HOK.out (by omega))
            have HOK3 := Lib.hid (wok_timeout HOK2.out (by omega))
            have s3 : (st.fast.timeout.size == f) = true := by simp [WS.timeout, WS.fast, HZ.out]
            have s4 : 4 * f ≤ st.fast.timeout.thresh ∧ st.fast.timeout.thresh ≤ 4 * f := by simp only [WS.timeout, WS.fast]; rw [HZ.out]; omega
            have s2 : (st.fast.size != 4 * f) = false := by simp only [WS.fast]; rw [HZ.out]; simp; omega
            go_wp2_with fail
            refine (size_any st _ _ H1.out).mono ?_
            rintro e x1 ⟨rfl, rfl⟩
            go_wp2_with fail
            refine (fast_any st HOK.out _ _ H1.out).mono ?_
            rintro e w3 ⟨rfl, o3, g3⟩
            have O3 := Lib.hid o3
            have G3 := Lib.hid g3
            clear o3 g3
            go_wp2_with fail
            refine (thresh_any st.fast _ _ O3.out).mono ?_
            rintro e x2 ⟨rfl, rfl⟩
            go_wp2_with fail
            refine (size_any st.fast _ _ O3.out).mono ?_
            rintro e x3 ⟨rfl, rfl⟩
            go_wp2_with fail
            refine (timeout_any st.fast HOK2.out _ _ O3.out).mono ?_
            rintro e w4 ⟨rfl, o4, g4⟩
            have O4 := Lib.hid o4
            have G4 := Lib.hid g4
            clear o4 g4
            go_wp2_with fail
            refine (thresh_any st.fast.timeout _ _ O4.out).mono ?_
            rintro e x4 ⟨rfl, rfl⟩
            go_wp2_with fail
            refine (thresh_any st.fast.timeout _ _ O4.out).mono ?_
            rintro e x5 ⟨rfl, rfl⟩
            go_wp2_with fail
            refine (size_any st.fast.timeout _ _ O4.out).mono ?_
            rintro e x6 ⟨rfl, rfl⟩
            go_wp2_with (go_at_call 9; refine (works_any _).mono ?_; rintro e w99 ⟨rfl, g99⟩)
            go_ret
            exact ⟨rfl, below_none (below_only (below_only HB.out G3.out (Nat.le_refl _)) G4.out (Nat.le_refl _)) g99⟩
          · have X : True := trivial
            have t1 : (st.fast.thresh != 4 * f) = false := by simp only [WS.fast]; rw [HZ.out]; simp; omega
            have t1b : st.fast.thresh = 4 * f := by simp only [WS.fast]; rw [HZ.out]; omega
            have T1 := Lib.hid t1b
            clear t1b
            have HOK2 := Lib.hid (wok_fast HOK.out (by omega))
            have HOK3 := Lib.hid (wok_timeout HOK2.out (by omega))
            have s3 : (st.fast.timeout.size == f) = true := by simp [WS.timeout, WS.fast, HZ.out]
            have s4 : 4 * f ≤ st.fast.timeout.thresh ∧ st.fast.timeout.thresh ≤ 4 * f := by simp only [WS.timeout, WS.fast]; rw [HZ.out]; omega
            have s2 : (st.fast.size != st.size) = false := by simp only [WS.fast]; rw [HZ.out]; simp; omega
            go_wp2_with fail
            refine (size_any st _ _ H1.out).mono ?_
            rintro e x7 ⟨rfl, rfl⟩
            go_wp2_with fail
            refine (fast_any st HOK.out _ _ H1.out).mono ?_
            rintro e w3 ⟨rfl, o3, g3⟩
            have O3 := Lib.hid o3
            have G3 := Lib.hid g3
            clear o3 g3
            go_wp2_with fail
            refine (thresh_any st.fast _ _ O3.out).mono ?_
            rintro e x8 ⟨rfl, rfl⟩
            go_wp2_with fail
            refine (size_any st.fast _ _ O3.out).mono ?_
            rintro e x9 ⟨rfl, rfl⟩
            go_wp2_with fail
            refine (timeout_any st.fast HOK2.out _ _ O3.out).mono ?_
            rintro e w4 ⟨rfl, o4, g4⟩
            have O4 := Lib.hid o4
            have G4 := Lib.hid g4
            clear o4 g4
            go_wp2_with fail
            refine (thresh_any st.fast.timeout _ _ O4.out).mono ?_
            rintro e x10 ⟨rfl, rfl⟩
            go_wp2_with fail
            refine (thresh_any st.fast.timeout _ _ O4.out).mono ?_
            rintro e x11 ⟨rfl, rfl⟩
            go_wp2_with fail
            refine (size_any st.fast.timeout _ _ O4.out).mono ?_
            rintro e x12 ⟨rfl, rfl⟩
            go_wp2_with (go_at_call 9; refine (works_any _).mono ?_; rintro e w99 ⟨rfl, g99⟩)
            go_ret
            exact ⟨rfl, below_none (below_only (below_only HB.out G3.out (Nat.le_refl _)) G4.out (Nat.le_refl _)) g99⟩
        · have X : True := trivial
          have t1 : (st.timeout.thresh != 4 * f) = false := by simp only [WS.timeout]; rw [HZ.out]; simp; omega
          have t1b : st.timeout.thresh = 4 * f := by simp only [WS.timeout]; rw [HZ.out]; omega
          have T1 := Lib.hid t1b
          clear t1b
          have HOK2 := Lib.hid (wok_timeout HOK.out (by omega))
          have HOK3 := Lib.hid (wok_timeout HOK2.out (by omega))
          have s3 : (st.timeout.timeout.size == f) = true := by simp [WS.timeout, WS.timeout, HZ.out]
          have s4 : 4 * f ≤ st.timeout.timeout.thresh ∧ st.timeout.timeout.thresh ≤ 4 * f := by simp only [WS.timeout, WS.timeout]; rw [HZ.out]; omega
          have s2 : (st.timeout.size != f) = false := by simp [WS.timeout, HZ.out]
          go_wp2_with fail
          refine (size_any st _ _ H1.out).mono ?_
          rintro e x13 ⟨rfl, rfl⟩
          go_wp2_with fail
          refine (timeout_any st HOK.out _ _ H1.out).mono ?_
          rintro e w3 ⟨rfl, o3, g3⟩
          have O3 := Lib.hid o3
          have G3 := Lib.hid g3
          clear o3 g3
          go_wp2_with fail
          refine (thresh_any st.timeout _ _ O3.out).mono ?_
          rintro e x14 ⟨rfl, rfl⟩
          go_wp2_with fail
          refine (size_any st.timeout _ _ O3.out).mono ?_
          rintro e x15 ⟨rfl, rfl⟩
          go_wp2_with fail
          refine (timeout_any st.timeout HOK2.out _ _ O3.out).mono ?_
          rintro e w4 ⟨rfl, o4, g4⟩
          have O4 := Lib.hid o4
          have G4 := Lib.hid g4
          clear o4 g4
          go_wp2_with fail
          refine (thresh_any st.timeout.timeout _ _ O4.out).mono ?_
          rintro e x16 ⟨rfl, rfl⟩
          go_wp2_with fail
          refine (thresh_any st.timeout.timeout _ _ O4.out).mono ?_
          rintro e x17 ⟨rfl, rfl⟩
          go_wp2_with fail
          refine (size_any st.timeout.timeout _ _ O4.out).mono ?_
          rintro e x18 ⟨rfl, rfl⟩
          go_wp2_with (go_at_call 9; refine (works_any _).mono ?_; rintro e w99 ⟨rfl, g99⟩)
          go_ret
          exact ⟨rfl, below_none (below_only (below_only HB.out G3.out (Nat.le_refl _)) G4.out (Nat.le_refl _)) g99⟩
      · cases tm
        · have hm2 : st.size / 2 < st.size := by omega
          have t1 : (st.fast.thresh != st.size / 2) = false := by simp only [WS.fast]; rw [HZ.out]; simp; omega
          have t1b : st.fast.thresh = st.size / 2 := by simp only [WS.fast]; rw [HZ.out]; omega
          have T1 := Lib.hid t1b
          clear t1b
          have HOK2 := Lib.hid (wok_fast HOK.out (by omega))
          have HOK3 := Lib.hid (wok_timeout HOK2.out (by omega))
          have s3 : (st.fast.timeout.size == f) = true := by simp [WS.timeout, WS.fast, HZ.out]
          have s4 : 4 * f ≤ st.fast.timeout.thresh ∧ st.fast.timeout.thresh ≤ st.size / 2 := by simp only [WS.timeout, WS.fast]; rw [HZ.out]; omega
          have s2 : (st.fast.size != st.size / 2) = false := by simp only [WS.fast]; rw [HZ.out]; simp; omega
          go_wp2_with fail
          refine (size_any st _ _ H1.out).mono ?_
          rintro e x19 ⟨rfl, rfl⟩
          go_wp2_with fail
          refine (fast_any st HOK.out _ _ H1.out).mono ?_
          rintro e w3 ⟨rfl, o3, g3⟩
          have O3 := Lib.hid o3
          have G3 := Lib.hid g3
          clear o3 g3
          go_wp2_with fail
          refine (thresh_any st.fast _ _ O3.out).mono ?_
          rintro e x20 ⟨rfl, rfl⟩
          go_wp2_with fail
          refine (size_any st.fast _ _ O3.out).mono ?_
          rintro e x21 ⟨rfl, rfl⟩
          go_wp2_with fail
          refine (timeout_any st.fast HOK2.out _ _ O3.out).mono ?_
          rintro e w4 ⟨rfl, o4, g4⟩
          have O4 := Lib.hid o4
          have G4 := Lib.hid g4
          clear o4 g4
          go_wp2_with fail
          refine (thresh_any st.fast.timeout _ _ O4.out).mono ?_
          rintro e x22 ⟨rfl, rfl⟩
          go_wp2_with fail
          refine (thresh_any st.fast.timeout _ _ O4.out).mono ?_
          rintro e x23 ⟨rfl, rfl⟩
          go_wp2_with fail
          refine (size_any st.fast.timeout _ _ O4.out).mono ?_
          rintro e x24 ⟨rfl, rfl⟩
          go_wp2_with (go_at_call 9; refine (works_any _).mono ?_; rintro e w99 ⟨rfl, g99⟩)
          go_ret
          exact ⟨rfl, below_none (below_only (below_only HB.out G3.out (Nat.le_refl _)) G4.out (Nat.le_refl _)) g99⟩
        · have X : True := trivial
          have t1 : (st.timeout.thresh != st.size / 2) = false := by simp only [WS.timeout]; rw [HZ.out]; simp; omega
          have t1b : st.timeout.thresh = st.size / 2 := by simp only [WS.timeout]; rw [HZ.out]; omega
          have T1 := Lib.hid t1b
          clear t1b
          have HOK2 := Lib.hid (wok_timeout HOK.out (by omega))
          have HOK3 := Lib.hid (wok_timeout HOK2.out (by omega))
          have s3 : (st.timeout.timeout.size == f) = true := by simp [WS.timeout, WS.timeout, HZ.out]
          have s4 : 4 * f ≤ st.timeout.timeout.thresh ∧ st.timeout.timeout.thresh ≤ st.size / 2 := by simp only [WS.timeout, WS.timeout]; rw [HZ.out]; omega
          have s2 : (st.timeout.size != f) = false := by simp [WS.timeout, HZ.out]
          go_wp2_with fail
          refine (size_any st _ _ H1.out).mono ?_
          rintro e x25 ⟨rfl, rfl⟩
          go_wp2_with fail
          refine (timeout_any st HOK.out _ _ H1.out).mono ?_
          rintro e w3 ⟨rfl, o3, g3⟩
          have O3 := Lib.hid o3
          have G3 := Lib.hid g3
          clear o3 g3
          go_wp2_with fail
          refine (thresh_any st.timeout _ _ O3.out).mono ?_
          rintro e x26 ⟨rfl, rfl⟩
          go_wp2_with fail
          refine (size_any st.timeout _ _ O3.out).mono ?_
          rintro e x27 ⟨rfl, rfl⟩
          go_wp2_with fail
          refine (timeout_any st.timeout HOK2.out _ _ O3.out).mono ?_
          rintro e w4 ⟨rfl, o4, g4⟩
          have O4 := Lib.hid o4
          have G4 := Lib.hid g4
          clear o4 g4
          go_wp2_with fail
          refine (thresh_any st.timeout.timeout _ _ O4.out).mono ?_
          rintro e x28 ⟨rfl, rfl⟩
          go_wp2_with fail
          refine (thresh_any st.timeout.timeout _ _ O4.out).mono ?_
          rintro e x29 ⟨rfl, rfl⟩
          go_wp2_with fail
          refine (size_any st.timeout.timeout _ _ O4.out).mono ?_
          rintro e x30 ⟨rfl, rfl⟩
          go_wp2_with (go_at_call 9; refine (works_any _).mono ?_; rintro e w99 ⟨rfl, g99⟩)
          go_ret
          exact ⟨rfl, below_none (below_only (below_only HB.out G3.out (Nat.le_refl _)) G4.out (Nat.le_refl _)) g99⟩

theorem windowHalves.walk (W : World) (f : Int) (wf : (Lit.int .i64 f).wf = true) (l : Int) (wl : (Lit.int .i64 l).wf = true) (v : Value) (x : Nat × (Nat → Int) × (Nat → Int) × (Nat → Bool)) (ho : Ops W v x) (tm : Bool) :
    Calls Try.prog 7 #[.int .i64 f, .int .i64 l, v, .bool tm] W fun e w' => e = .returned (.bool true) ∧ Below W.heap.size W w' := by
  by_cases hf : wfits f l
  · by_cases hn : x.1 ≤ 500
    · exact halves_good f l hf v x tm W ho hn
    · obtain ⟨n, ks, ts, us⟩ := x
      obtain ⟨⟨a, cap, rfl, hcap, hcap2, hsl⟩, hts⟩ := ho
      simp only at hn
      have hn2 : 500 < n := by omega
      have HF := Lib.hid hf
      clear hsl hts hn hf
      go_enter Try.func7, Try.ntmps7
      go_wp2_with fail
      refine (wnew_any f l HF.out _).mono ?_
      rintro e w1 ⟨rfl, o1, g1⟩
      have O1 := Lib.hid o1
      have G1 := Lib.hid g1
      clear o1 g1
      go_wp2_with (go_at_call 9; refine (works_any _).mono ?_; rintro e w99 ⟨rfl, g99⟩)
      go_ret
      exact ⟨rfl, below_none (below_none (Below.refl _ _) G1.out) g99⟩
  · obtain ⟨n, ks, ts, us⟩ := x
    obtain ⟨⟨a, cap, rfl, hcap, hcap2, hsl⟩, hts⟩ := ho
    have HF := Lib.hid hf
    have HBD := Lib.hid (bounds_i64 wf)
    clear hsl hts hf wf wl
    go_enter Try.func7, Try.ntmps7
    go_wp2_with fail
    refine (wnew_any_bad f l HBD.out HF.out _).mono ?_
    rintro e x31 ⟨rfl, rfl⟩
    go_wp2_with (go_at_call 9; refine (works_any _).mono ?_; rintro e w99 ⟨rfl, g99⟩)
    go_ret
    exact ⟨rfl, below_none (Below.refl _ _) g99⟩
end Go.Proofs.Ythhbdaophhidhaa
