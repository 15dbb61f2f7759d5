/- The walk of RtoFirst. No condition. -/
import Derived.Test.YtkggggpikebbkaaRtoLater
namespace Go.Proofs.Ytkggggpikebbkaa
open Go.RowKit Go.ChangeShapes Go.WideShapes Go.Deep
set_option linter.unusedVariables false
set_option linter.unusedSimpArgs false

/-- An estimator without samples, its bounds. -/
def RS.fresh (x : RS) (l m : Int) : Prop := x.ok ∧ x.any = false ∧ x.l = l ∧ x.m = m
theorem fresh_back {x : RS} {l m : Int} (h : x.fresh l m) : x.back.fresh l m := ⟨ok_back h.1, h.2.1, h.2.2.1, h.2.2.2⟩
theorem fresh_sample {x : RS} {l m : Int} (h : x.fresh l m) {t : Int} (ht : 0 ≤ t) :
    (x.sample t).smooth = min t 1048576 ∧ (x.sample t).v = clamp (min t 1048576 + max 1 (2 * min t 1048576)) l m ∧ (x.sample t).any = true := by
  obtain ⟨_, h1, h2, h3⟩ := h
  simp only [RS.smooth, RS.sample, ns, ny, h1, h2, h3, if_true, Bool.false_eq_true, if_false, and_true]
  refine ⟨by omega, ?_⟩
  simp only [clamp]
  omega

def FRel (W : World) (b1 n : Nat) (l m : Int) (i : Value) (wr : World) : Prop :=
  ∃ (k : Nat) (st : RS), k ≤ n ∧ i = .int .i64 (k : Int) ∧ st.fresh l m ∧ obj wr b1 45 st.cells ∧ Below W.heap.size W wr

set_option maxRecDepth 100000 in
set_option maxHeartbeats 8000000 in
theorem first_good (f l m t : Int) (n : Nat) (hn : n ≤ 255) (ht : -9223372036854775808 ≤ t ∧ t ≤ 9223372036854775807) (hf : fits f l m) (W : World) :
    Calls Try.prog 7 #[.int .i64 f, .int .i64 l, .int .i64 m, .int .i64 t, .int .u8 (n : Int)] W fun e w' => e = .returned (.bool true) ∧ Below W.heap.size W w' := by
  have hlm : 1 ≤ l ∧ l ≤ m ∧ m ≤ 1048576 := by unfold fits at hf; omega
  have HF := Lib.hid hf
  clear hf
  go_enter Try.func7, Try.ntmps7
  go_wp2_with fail
  refine (new_any f l m HF.out _).mono ?_
  rintro e w1 ⟨rfl, o1, g1⟩
  have O1 := Lib.hid o1
  have G1 := Lib.hid g1
  clear o1 g1
  go_wp2_with fail
  go_loopw [13] (fun i wr => FRel W W.heap.size n l m i wr) (fun i _ => n - (intOf i).toNat)
  case atStart => exact ⟨0, RS.init f l m, Nat.zero_le _, rfl, ⟨ok_init HF.out, rfl, rfl, rfl⟩, O1.out, below_none (Below.refl _ _) G1.out⟩
  case round =>
    obtain ⟨k, st, hk, rfl, hfr, h1, hbel⟩ := hrel
    have HFR := Lib.hid hfr
    have H1 := Lib.hid h1
    have HB := Lib.hid hbel
    clear hfr h1 hbel
    by_cases hlt : k < n
    · have X : True := trivial
      go_wp2_with fail
      refine (back_any st HFR.out.1 _ _ H1.out).mono ?_
      rintro e w3 ⟨rfl, o3, g3⟩
      have O3 := Lib.hid o3
      have G3 := Lib.hid g3
      clear o3 g3
      go_wp2_with fail
      go_roundw
      case rel => exact ⟨k + 1, st.back, by omega, by go_num, fresh_back HFR.out, O3.out, below_only HB.out G3.out (Nat.le_refl _)⟩
      case measure => simp [intOf]; omega
    · have an : st.any = false := HFR.out.2.1
      have sm : st.smooth = 0 := by unfold RS.smooth; rw [an]; rfl
      by_cases hneg : t < 0
      · have X : True := trivial
        go_wp2_with fail
        refine (value_any st _ _ H1.out).mono ?_
        rintro e x1 ⟨rfl, rfl⟩
        go_wp2_with fail
        refine (sample_any_neg _ _ hneg _).mono ?_
        rintro e x2 ⟨rfl, rfl⟩
        go_wp2_with fail
        refine (smooth_any st HFR.out.1 _ _ H1.out).mono ?_
        rintro e x3 ⟨rfl, rfl⟩
        go_wp2_with fail
        refine (value_any st _ _ H1.out).mono ?_
        rintro e x4 ⟨rfl, rfl⟩
        go_wp2_with (go_at_call 9; refine (works_any _).mono ?_; rintro e w9 ⟨rfl, g9⟩)
        go_ret
        exact ⟨rfl, below_none HB.out g9⟩
      · have hpos : 0 ≤ t := by omega
        clear an sm
        have FS := Lib.hid (fresh_sample HFR.out hpos)
        have HOK2 := Lib.hid (ok_sample HFR.out.1 hpos)
        go_wp2_with fail
        refine (value_any st _ _ H1.out).mono ?_
        rintro e x5 ⟨rfl, rfl⟩
        go_wp2_with fail
        refine (sample_any st HFR.out.1 _ _ hpos ht.2 _ H1.out).mono ?_
        rintro e w3 ⟨rfl, o3, g3⟩
        have O3 := Lib.hid o3
        have G3 := Lib.hid g3
        clear o3 g3
        have HB' := Lib.hid (below_only HB.out G3.out (Nat.le_refl _))
        generalize st.sample t = sn at *
        have an : sn.any = true := FS.out.2.2
        by_cases hbig : 1048576 < t
        · have sm : (sn.smooth == 1048576) = true := by rw [FS.out.1]; simp; omega
          have sv : (sn.v == m) = true := by rw [FS.out.2.1]; simp [clamp]; omega
          go_wp2_with fail
          refine (smooth_any sn HOK2.out _ _ O3.out).mono ?_
          rintro e x6 ⟨rfl, rfl⟩
          go_wp2_with fail
          refine (value_any sn _ _ O3.out).mono ?_
          rintro e x7 ⟨rfl, rfl⟩
          go_wp2_with (go_at_call 9; refine (works_any _).mono ?_; rintro e w9 ⟨rfl, g9⟩)
          go_ret
          exact ⟨rfl, below_none HB'.out g9⟩
        · by_cases hz : t < 1
          · have h0 : t = 0 := by omega
            have sm : (sn.smooth == 0) = true := by rw [FS.out.1, h0]; decide
            by_cases hl1 : l ≤ 1
            · have sv : (sn.v == 1) = true := by rw [FS.out.2.1]; simp [clamp]; omega
              subst h0
              go_wp2_with fail
              refine (smooth_any sn HOK2.out _ _ O3.out).mono ?_
              rintro e x8 ⟨rfl, rfl⟩
              go_wp2_with fail
              refine (value_any sn _ _ O3.out).mono ?_
              rintro e x9 ⟨rfl, rfl⟩
              go_wp2_with (go_at_call 9; refine (works_any _).mono ?_; rintro e w9 ⟨rfl, g9⟩)
              go_ret
              exact ⟨rfl, below_none HB'.out g9⟩
            · have sv : (sn.v == l) = true := by rw [FS.out.2.1]; simp [clamp]; omega
              subst h0
              go_wp2_with fail
              refine (smooth_any sn HOK2.out _ _ O3.out).mono ?_
              rintro e x10 ⟨rfl, rfl⟩
              go_wp2_with fail
              refine (value_any sn _ _ O3.out).mono ?_
              rintro e x11 ⟨rfl, rfl⟩
              go_wp2_with (go_at_call 9; refine (works_any _).mono ?_; rintro e w9 ⟨rfl, g9⟩)
              go_ret
              exact ⟨rfl, below_none HB'.out g9⟩
          · have sm : (sn.smooth == t) = true := by rw [FS.out.1]; simp; omega
            have q1 : t + 2 * t = 3 * t := by omega
            by_cases hl1 : t + 2 * t < l
            · have sv : (sn.v == l) = true := by rw [FS.out.2.1]; simp [clamp]; omega
              clear q1
              go_wp2_with fail
              refine (smooth_any sn HOK2.out _ _ O3.out).mono ?_
              rintro e x12 ⟨rfl, rfl⟩
              go_wp2_with fail
              refine (value_any sn _ _ O3.out).mono ?_
              rintro e x13 ⟨rfl, rfl⟩
              go_wp2_with (go_at_call 9; refine (works_any _).mono ?_; rintro e w9 ⟨rfl, g9⟩)
              go_ret
              exact ⟨rfl, below_none HB'.out g9⟩
            · by_cases hm1 : m < t + 2 * t
              · have sv : (sn.v == m) = true := by rw [FS.out.2.1]; simp [clamp]; omega
                clear q1
                go_wp2_with fail
                refine (smooth_any sn HOK2.out _ _ O3.out).mono ?_
                rintro e x14 ⟨rfl, rfl⟩
                go_wp2_with fail
                refine (value_any sn _ _ O3.out).mono ?_
                rintro e x15 ⟨rfl, rfl⟩
                go_wp2_with (go_at_call 9; refine (works_any _).mono ?_; rintro e w9 ⟨rfl, g9⟩)
                go_ret
                exact ⟨rfl, below_none HB'.out g9⟩
              · have sv : (sn.v == t + 2 * t) = true := by rw [FS.out.2.1]; simp [clamp]; omega
                clear q1
                go_wp2_with fail
                refine (smooth_any sn HOK2.out _ _ O3.out).mono ?_
                rintro e x16 ⟨rfl, rfl⟩
                go_wp2_with fail
                refine (value_any sn _ _ O3.out).mono ?_
                rintro e x17 ⟨rfl, rfl⟩
                go_wp2_with (go_at_call 9; refine (works_any _).mono ?_; rintro e w9 ⟨rfl, g9⟩)
                go_ret
                exact ⟨rfl, below_none HB'.out g9⟩

theorem rtoFirst.walk (W : World) (f : Int) (wf : (Lit.int .i64 f).wf = true) (l : Int) (wl : (Lit.int .i64 l).wf = true) (m : Int) (wm : (Lit.int .i64 m).wf = true) (t : Int) (wt : (Lit.int .i64 t).wf = true) (b : Int) (wb : (Lit.int .u8 b).wf = true) :
    Calls Try.prog 7 #[.int .i64 f, .int .i64 l, .int .i64 m, .int .i64 t, .int .u8 b] W fun e w' => e = .returned (.bool true) ∧ Below W.heap.size W w' := by
  by_cases hf : fits f l m
  · obtain ⟨n, rfl⟩ := Int.eq_ofNat_of_zero_le (bounds_u8 wb).1
    exact first_good f l m t n (by have := (bounds_u8 wb).2; omega) (bounds_i64 wt) hf W
  · have HF := Lib.hid hf
    clear hf
    go_enter Try.func7, Try.ntmps7
    go_wp2_with fail
    refine (new_any_bad f l m HF.out _).mono ?_
    rintro e x18 ⟨rfl, rfl⟩
    go_wp2_with (go_at_call 9; refine (works_any _).mono ?_; rintro e w9 ⟨rfl, g9⟩)
    go_ret
    exact ⟨rfl, below_none (Below.refl _ _) g9⟩
end Go.Proofs.Ytkggggpikebbkaa
