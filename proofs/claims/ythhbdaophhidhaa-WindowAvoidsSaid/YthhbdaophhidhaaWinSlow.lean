/- The walk of WindowSlow. No condition. -/
import Derived.Test.YthhbdaophhidhaaWinHalves
namespace Go.Proofs.Ythhbdaophhidhaa
open Go.RowKit Go.ChangeShapes Go.WideShapes Go.Deep
set_option linter.unusedVariables false
set_option linter.unusedSimpArgs false

/-- An acknowledgement of a whole mtu: the size grows by that much, or stands beyond the threshold. -/
theorem slow_step {x : WS} {p f l P : Int} (h : x.ok p) (hm : x.mtu = f) (hl : x.most = l) (ht : x.thresh = 4 * f) (hP : f ≤ P) (hs : x.size = min P l) :
    (x.acked f true).thresh = 4 * f ∧ ((x.acked f true).size = min (f + P) l ∨ (4 * f < (x.acked f true).size ∧ (x.acked f true).size ≤ min (f + P) l)) := by
  unfold WS.ok at h
  subst hm hl
  refine ⟨?_, ?_⟩
  · unfold WS.acked WS.grow
    rw [if_neg (by omega)]
    split
    · unfold WS.avoid; split <;> exact ht
    · exact ht
  · unfold WS.acked
    rw [if_neg (by omega)]
    unfold WS.grow
    by_cases h2 : x.thresh < x.size
    · rw [if_pos h2]
      unfold WS.avoid
      by_cases h3 : true = true ∧ x.size ≤ x.part + min x.mtu x.most
      · rw [if_pos h3]; simp only [WS.cap]; omega
      · rw [if_neg h3]; simp only [WS.cap]; omega
    · rw [if_neg h2]; simp only [WS.cap, WS.slow, if_true]; omega

def LRel (W : World) (b1 c : Nat) (f l : Int) (i : Value) (wr : World) : Prop :=
  ∃ (j : Nat) (st : WS), 1 ≤ j ∧ j ≤ c + 1 ∧ i = .int .i64 (j : Int) ∧ st.ok (j * 16777216) ∧ (st.mtu = f ∧ st.most = l ∧ st.thresh = 4 * f ∧ st.size = min ((j : Int) * f) l) ∧ obj wr b1 45 st.cells ∧ Below W.heap.size W wr

set_option maxRecDepth 100000 in
set_option maxHeartbeats 16000000 in
theorem wslow_good (f l : Int) (hf : wfits f l) (n : Int) (hn : 0 ≤ n ∧ n ≤ 65535) (W : World) :
    Calls Try.prog 5 #[.int .i64 f, .int .i64 l, .int .u16 n] W fun e w' => e = .returned (.bool true) ∧ Below W.heap.size W w' := by
  have HF := Lib.hid hf
  have hfl : 128 ≤ f ∧ f ≤ 1500 ∧ 4 * f ≤ l ∧ l ≤ 16777216 := by unfold wfits at hf; omega
  clear hf
  obtain ⟨c, hc⟩ : ∃ c : Nat, n % 300 = (c : Int) := ⟨(n % 300).toNat, by omega⟩
  have hc3 : c ≤ 299 := by omega
  have HC := Lib.hid hc
  have HOK1 := Lib.hid (wok_init (p := 0) HF.out (Int.le_refl 0))
  have HOK2 := Lib.hid (wok_timeout HOK1.out (Int.le_refl 0))
  have HOK3 := Lib.hid (wok_timeout HOK2.out (Int.le_refl 0))
  have t3 : (WS.init f l).timeout.timeout.thresh = 4 * f := by simp only [WS.timeout, WS.init]; omega
  have s3 : Hid ((WS.init f l).timeout.timeout.size = f) := rfl
  clear hc
  go_enter Try.func5, Try.ntmps5
  go_wp2_with fail
  refine (wnew_any f l HF.out _).mono ?_
  rintro e w1 ⟨rfl, o1, g1⟩
  have O1 := Lib.hid o1
  have G1 := Lib.hid g1
  clear o1 g1
  go_wp2_with fail
  refine (timeout_any _ HOK1.out _ _ O1.out).mono ?_
  rintro e w2 ⟨rfl, o2, g2⟩
  have O2 := Lib.hid o2
  have G2 := Lib.hid g2
  clear o2 g2
  go_wp2_with fail
  refine (timeout_any _ HOK2.out _ _ O2.out).mono ?_
  rintro e w3 ⟨rfl, o3, g3⟩
  have O3 := Lib.hid o3
  have G3 := Lib.hid g3
  clear o3 g3
  go_wp2_with fail
  refine (thresh_any _ _ _ O3.out).mono ?_
  rintro e x1 ⟨rfl, rfl⟩
  go_wp2_with fail
  have T3 := Lib.hid t3
  clear t3
  go_loopw [10] (fun i wr => LRel W W.heap.size c f l i wr) (fun i _ => 300 - (intOf i).toNat)
  case atStart => exact ⟨1, _, Nat.le_refl _, by omega, rfl, wok_more HOK3.out (by omega), ⟨rfl, rfl, T3.out, by rw [s3.out]; omega⟩, O3.out, below_only (below_only (below_none (Below.refl _ _) G1.out) G2.out (Nat.le_refl _)) G3.out (Nat.le_refl _)⟩
  case round =>
    obtain ⟨j, st, hj1, hj, rfl, hok, ⟨hx1, hx2, hx3, hx4⟩, h1, hbel⟩ := hrel
    have HOK := Lib.hid hok
    have H1 := Lib.hid h1
    have HB := Lib.hid hbel
    have HX1 := Lib.hid hx1
    have HX2 := Lib.hid hx2
    clear h1 hbel
    have hcm := HC.out
    by_cases hlt : j ≤ c
    · have lt3 : (j : Int) ≤ n % 300 := by omega
      have pb : 1 * f ≤ (j : Int) * f ∧ (j : Int) * f ≤ 300 * f := ⟨Int.mul_le_mul_of_nonneg_right (by omega) (by omega), Int.mul_le_mul_of_nonneg_right (by omega) (by omega)⟩
      have ss := slow_step hok hx1 hx2 hx3 (P := (j : Int) * f) (by omega) hx4
      have SS := Lib.hid ss
      have HP := Lib.hid (show ((j + 1 : Nat) : Int) * f = f + (j : Int) * f by rw [Int.natCast_add, Int.add_mul]; omega)
      have HOK4 := Lib.hid (wok_acked HOK.out (by omega) f true)
      have HM4 := Lib.hid (show (st.acked f true).mtu = f ∧ (st.acked f true).most = l from by
        have a := step_fix st 0 f true
        unfold WS.step at a
        rw [if_pos rfl] at a
        exact ⟨a.1.trans hx1, a.2.trans hx2⟩)
      clear hcm ss hok hx1 hx2 hx3 hx4
      go_wp2_with fail
      refine (acked_any st HOK.out (by omega) _ f (by omega) (by omega) true _ H1.out).mono ?_
      rintro e w4 ⟨rfl, o4, g4⟩
      have O4 := Lib.hid o4
      have G4 := Lib.hid g4
      clear o4 g4
      have HB4 := Lib.hid (below_only HB.out G4.out (Nat.le_refl _))
      generalize st.acked f true = sn at *
      generalize hPP : (j : Int) * f = P at *
      have HPP := Lib.hid hPP
      by_cases heq : sn.size = min (f + P) l
      · have HEQ := Lib.hid heq
        by_cases hmm : l < f + P
        · have e1 : (sn.size != l) = false := by rw [heq]; simp; omega
          clear heq
          go_wp2_with fail
          refine (size_any sn _ _ O4.out).mono ?_
          rintro e x2 ⟨rfl, rfl⟩
          go_wp2_with fail
          go_roundw
          case rel => exact ⟨j + 1, sn, by omega, by omega, by go_num, wok_more HOK4.out (by omega), ⟨HM4.out.1, HM4.out.2, SS.out.1, by rw [HP.out]; exact HEQ.out⟩, O4.out, HB4.out⟩
          case measure => simp [intOf]; omega
        · have e1 : (sn.size != f + P) = false := by rw [heq]; simp; omega
          clear heq
          go_wp2_with fail
          refine (size_any sn _ _ O4.out).mono ?_
          rintro e x3 ⟨rfl, rfl⟩
          go_wp2_with fail
          go_roundw
          case rel => exact ⟨j + 1, sn, by omega, by omega, by go_num, wok_more HOK4.out (by omega), ⟨HM4.out.1, HM4.out.2, SS.out.1, by rw [HP.out]; exact HEQ.out⟩, O4.out, HB4.out⟩
          case measure => simp [intOf]; omega
      · have HT := Lib.hid T3.out
        have g1 : 4 * f < sn.size ∧ sn.size ≤ min (f + P) l := by
          rcases SS.out.2 with h | h
          · exact absurd h heq
          · exact h
        have g2 : (WS.init f l).timeout.timeout.thresh < sn.size := by rw [T3.out]; exact g1.1
        by_cases hmm : l < f + P
        · have e1 : (sn.size != l) = true := by simp; omega
          have g3 : sn.size ≤ l := by omega
          clear heq
          go_wp2_with fail
          refine (size_any sn _ _ O4.out).mono ?_
          rintro e x4 ⟨rfl, rfl⟩
          go_wp2_with fail
          refine (size_any sn _ _ O4.out).mono ?_
          rintro e x5 ⟨rfl, rfl⟩
          go_wp2_with fail
          refine (size_any sn _ _ O4.out).mono ?_
          rintro e x6 ⟨rfl, rfl⟩
          go_wp2_with (go_at_call 9; refine (works_any _).mono ?_; rintro e w99 ⟨rfl, g99⟩)
          go_ret
          exact ⟨rfl, below_none HB4.out g99⟩
        · have e1 : (sn.size != f + P) = true := by simp; omega
          have g3 : sn.size ≤ f + P := by omega
          clear heq
          go_wp2_with fail
          refine (size_any sn _ _ O4.out).mono ?_
          rintro e x7 ⟨rfl, rfl⟩
          go_wp2_with fail
          refine (size_any sn _ _ O4.out).mono ?_
          rintro e x8 ⟨rfl, rfl⟩
          go_wp2_with fail
          refine (size_any sn _ _ O4.out).mono ?_
          rintro e x9 ⟨rfl, rfl⟩
          go_wp2_with (go_at_call 9; refine (works_any _).mono ?_; rintro e w99 ⟨rfl, g99⟩)
          go_ret
          exact ⟨rfl, below_none HB4.out g99⟩
    · have lt3 : ¬ ((j : Int) ≤ n % 300) := by omega
      clear hcm hok hx1 hx2 hx3 hx4
      go_wp2_with (go_at_call 9; refine (works_any _).mono ?_; rintro e w99 ⟨rfl, g99⟩)
      go_ret
      exact ⟨rfl, below_none HB.out g99⟩

theorem windowSlow.walk (W : World) (f : Int) (wf : (Lit.int .i64 f).wf = true) (l : Int) (wl : (Lit.int .i64 l).wf = true) (n : Int) (wn : (Lit.int .u16 n).wf = true) :
    Calls Try.prog 5 #[.int .i64 f, .int .i64 l, .int .u16 n] W fun e w' => e = .returned (.bool true) ∧ Below W.heap.size W w' := by
  by_cases hf : wfits f l
  · exact wslow_good f l hf n (bounds_u16 wn) W
  · have HF := Lib.hid hf
    have HBD := Lib.hid (bounds_i64 wf)
    clear hf wf wl wn
    go_enter Try.func5, Try.ntmps5
    go_wp2_with fail
    refine (wnew_any_bad f l HBD.out HF.out _).mono ?_
    rintro e x10 ⟨rfl, rfl⟩
    go_wp2_with (go_at_call 9; refine (works_any _).mono ?_; rintro e w99 ⟨rfl, g99⟩)
    go_ret
    exact ⟨rfl, below_none (Below.refl _ _) g99⟩
end Go.Proofs.Ythhbdaophhidhaa
