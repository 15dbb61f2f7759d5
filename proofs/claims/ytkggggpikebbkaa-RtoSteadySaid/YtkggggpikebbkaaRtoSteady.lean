/- The walk of RtoSteady. No condition. -/
import Derived.Test.YtkggggpikebbkaaRtoLater
namespace Go.Proofs.Ytkggggpikebbkaa
open Go.RowKit Go.ChangeShapes Go.WideShapes Go.Deep
set_option linter.unusedVariables false
set_option linter.unusedSimpArgs false

/-- The variation behind so many samples more of one time. -/
def lessen (y : Int) : Nat → Int
  | 0 => y
  | n + 1 => lessen y n - lessen y n / 4
theorem lessen_nonneg {y : Int} (h : 0 ≤ y) (n : Nat) : 0 ≤ lessen y n := by
  induction n with
  | zero => exact h
  | succ n ih => unfold lessen; omega
theorem lessen_down {y : Int} (h : 0 ≤ y) (n : Nat) : lessen y (n + 1) ≤ lessen y n := by
  have := lessen_nonneg h n
  show lessen y n - lessen y n / 4 ≤ lessen y n
  omega
theorem lessen_mono {y z : Int} (h0 : 0 ≤ y) (h : y ≤ z) (n : Nat) : lessen y n ≤ lessen z n := by
  induction n with
  | zero => exact h
  | succ n ih => have := lessen_nonneg h0 n; unfold lessen; omega
theorem lessen_le {y : Int} (h0 : 0 ≤ y) {a b : Nat} (h : a ≤ b) : lessen y b ≤ lessen y a := by
  induction b with
  | zero => have : a = 0 := by omega
            subst this; exact Int.le_refl _
  | succ b ih =>
    by_cases e : a = b + 1
    · subst e; exact Int.le_refl _
    · have := ih (by omega); have := lessen_down h0 b; omega
theorem lessen_end : lessen 2097152 99 ≤ 3 := by decide +kernel
theorem lessen_small {y : Int} (h0 : 0 ≤ y) (h : y ≤ 2097152) : lessen y 99 ≤ 3 := Int.le_trans (lessen_mono h0 h 99) lessen_end

/-- The estimator behind k samples of t. -/
def steady (f l m t : Int) : Nat → RS
  | 0 => RS.init f l m
  | k + 1 => (steady f l m t k).sample t
theorem steady_ok {f l m t : Int} (hf : fits f l m) (ht : 0 ≤ t) (k : Nat) : (steady f l m t k).ok := by
  induction k with
  | zero => exact ok_init hf
  | succ k ih => exact ok_sample ih ht
theorem steady_at {f l m t : Int} (ht : 0 ≤ t) (ht2 : t ≤ 1048576) (k : Nat) :
    (steady f l m t (k + 1)).s = 8 * t ∧ (steady f l m t (k + 1)).y = lessen (2 * t) k ∧ (steady f l m t (k + 1)).any = true ∧ (steady f l m t (k + 1)).l = l ∧ (steady f l m t (k + 1)).m = m ∧
      (steady f l m t (k + 1)).v = clamp (t + max 1 (lessen (2 * t) k)) l m := by
  have hmin : min t 1048576 = t := by omega
  induction k with
  | zero =>
    have h8 : 8 * t / 8 = t := by omega
    simp [steady, RS.sample, RS.init, ns, ny, lessen, hmin, h8]
  | succ k ih =>
    obtain ⟨h1, h2, h3, h4, h5, _⟩ := ih
    have e : steady f l m t (k + 1 + 1) = (steady f l m t (k + 1)).sample t := rfl
    rw [e]
    have h8 : 8 * t / 8 = t := by omega
    have hs : ns (steady f l m t (k + 1)) t = 8 * t := by unfold ns; rw [h3, h1, hmin]; simp only [if_true]; omega
    have hy : ny (steady f l m t (k + 1)) t = lessen (2 * t) (k + 1) := by
      unfold ny; rw [h3, h1, h2, hmin]; simp [lessen, h8]; omega
    refine ⟨hs, hy, rfl, h4, h5, ?_⟩
    simp only [RS.sample, hs, hy, h4, h5, h8]
theorem clamp_mono {x y a b : Int} (h : x ≤ y) : clamp x a b ≤ clamp y a b := by unfold clamp; omega

def SRel (W : World) (b1 n base : Nat) (f l m t : Int) (i : Value) (wr : World) : Prop :=
  ∃ (k : Nat), k ≤ n ∧ i = .int .i64 (k : Int) ∧ obj wr b1 45 (steady f l m t (base + k)).cells ∧ Below W.heap.size W wr

set_option maxRecDepth 100000 in
set_option maxHeartbeats 8000000 in
theorem steady_good (f l m t : Int) (hf : fits f l m) (ht : 0 ≤ t) (ht2 : t ≤ 1048576) (W : World) :
    Calls Try.prog 5 #[.int .i64 f, .int .i64 l, .int .i64 m, .int .i64 t] W fun e w' => e = .returned (.bool true) ∧ Below W.heap.size W w' := by
  have hlm : 1 ≤ l ∧ l ≤ m ∧ m ≤ 1048576 := by unfold fits at hf; omega
  have HF := Lib.hid hf
  clear hf
  go_enter Try.func5, Try.ntmps5
  go_wp2_with fail
  refine (new_any f l m HF.out _).mono ?_
  rintro e w1 ⟨rfl, o1, g1⟩
  have O1 := Lib.hid o1
  have G1 := Lib.hid g1
  clear o1 g1
  go_wp2_with fail
  go_loopw [11] (fun i wr => SRel W W.heap.size 100 0 f l m t i wr) (fun i _ => 100 - (intOf i).toNat)
  case atStart => exact ⟨0, Nat.zero_le _, rfl, O1.out, below_none (Below.refl _ _) G1.out⟩
  case round =>
    obtain ⟨k, hk, rfl, h1, hbel⟩ := hrel
    rw [Nat.zero_add] at h1
    have H1 := Lib.hid h1
    have HB := Lib.hid hbel
    clear h1 hbel
    by_cases hlt : k < 100
    · have X : True := trivial
      go_wp2_with fail
      refine (sample_any (steady f l m t k) (steady_ok HF.out ht k) _ t ht (by omega) _ H1.out).mono ?_
      rintro e w3 ⟨rfl, o3, g3⟩
      have O3 := Lib.hid o3
      have G3 := Lib.hid g3
      clear o3 g3
      have O3' := Lib.hid (show obj w3 W.heap.size 45 (steady f l m t (k + 1)).cells from O3.out)
      have sm : (steady f l m t (k + 1)).smooth = t := by
        obtain ⟨a1, _, a3, _⟩ := steady_at (f := f) (l := l) (m := m) ht ht2 k
        unfold RS.smooth; rw [a1, a3]; simp only [if_true]; omega
      go_wp2_with fail
      refine (smooth_any (steady f l m t (k + 1)) (steady_ok HF.out ht (k + 1)) _ _ O3'.out).mono ?_
      rintro e x1 ⟨rfl, rfl⟩
      go_wp2_with fail
      go_roundw
      case rel => exact ⟨k + 1, by omega, by go_num, by rw [Nat.zero_add]; exact O3'.out, below_only HB.out G3.out (Nat.le_refl _)⟩
      case measure => simp [intOf]; omega
    · have e : k = 100 := by omega
      subst e
      go_wp2_with fail
      refine (value_any (steady f l m t 100) _ _ H1.out).mono ?_
      rintro e x2 ⟨rfl, rfl⟩
      have HV : Hid ((steady f l m t 100).v = (steady f l m t 100).v) := rfl
      go_wp2_with fail
      go_loopw [15] (fun i wr => SRel W W.heap.size 20 100 f l m t i wr) (fun i _ => 20 - (intOf i).toNat)
      case atStart => exact ⟨0, Nat.zero_le _, rfl, H1.out, HB.out⟩
      case round =>
        obtain ⟨j, hj, rfl, h2, hbel⟩ := hrel
        have H2 := Lib.hid h2
        have HB2 := Lib.hid hbel
        clear h2 hbel
        by_cases hlt2 : j < 20
        · have X : True := trivial
          go_wp2_with fail
          refine (sample_any (steady f l m t (100 + j)) (steady_ok HF.out ht (100 + j)) _ t ht (by omega) _ H2.out).mono ?_
          rintro e w4 ⟨rfl, o4, g4⟩
          have O4 := Lib.hid o4
          have G4 := Lib.hid g4
          clear o4 g4
          go_wp2_with fail
          go_roundw
          case rel => exact ⟨j + 1, by omega, by go_num, O4.out, below_only HB2.out G4.out (Nat.le_refl _)⟩
          case measure => simp [intOf]; omega
        · have e : j = 20 := by omega
          subst e
          have y1 := (steady_at (f := f) (l := l) (m := m) ht ht2 99).2.2.2.2.2
          have y2 := (steady_at (f := f) (l := l) (m := m) ht ht2 119).2.2.2.2.2
          have z1 := lessen_small (y := 2 * t) (by omega) (by omega)
          have z2 := lessen_le (y := 2 * t) (by omega) (show 99 ≤ 119 by decide)
          have z3 := lessen_nonneg (y := 2 * t) (by omega) 119
          simp only [Nat.reduceAdd] at y1 y2
          have p1 : (steady f l m t 120).v ≤ (steady f l m t 100).v := by rw [y1, y2]; exact clamp_mono (by omega)
          have p2 : clamp (t + 1) l m ≤ (steady f l m t 120).v := by rw [y2]; exact clamp_mono (by omega)
          have p3 : (steady f l m t 120).v ≤ clamp (t + 3) l m := by rw [y2]; exact clamp_mono (by omega)
          have H3 := Lib.hid (show obj wr W.heap.size 45 (steady f l m t 120).cells from H2.out)
          clear y1 y2 z1 z2 z3 H2 HV H1
          generalize (steady f l m t 120) = sn at *
          generalize (steady f l m t 100).v = so at *
          by_cases hp20 : t + 1 < l
          · have p2 : l ≤ sn.v := by unfold clamp at p2; omega
            by_cases hp30 : t + 3 < l
            · have p3 : sn.v ≤ l := by unfold clamp at p3; omega
              go_wp2_with fail
              refine (value_any sn _ _ H3.out).mono ?_
              rintro e x3 ⟨rfl, rfl⟩
              go_wp2_with fail
              refine (value_any sn _ _ H3.out).mono ?_
              rintro e x4 ⟨rfl, rfl⟩
              go_wp2_with fail
              refine (value_any sn _ _ H3.out).mono ?_
              rintro e x5 ⟨rfl, rfl⟩
              go_wp2_with (go_at_call 9; refine (works_any _).mono ?_; rintro e w9 ⟨rfl, g9⟩)
              go_ret
              exact ⟨rfl, below_none HB2.out g9⟩
            · by_cases hp31 : m < t + 3
              · have p3 : sn.v ≤ m := by unfold clamp at p3; omega
                go_wp2_with fail
                refine (value_any sn _ _ H3.out).mono ?_
                rintro e x6 ⟨rfl, rfl⟩
                go_wp2_with fail
                refine (value_any sn _ _ H3.out).mono ?_
                rintro e x7 ⟨rfl, rfl⟩
                go_wp2_with fail
                refine (value_any sn _ _ H3.out).mono ?_
                rintro e x8 ⟨rfl, rfl⟩
                go_wp2_with (go_at_call 9; refine (works_any _).mono ?_; rintro e w9 ⟨rfl, g9⟩)
                go_ret
                exact ⟨rfl, below_none HB2.out g9⟩
              · have p3 : sn.v ≤ t + 3 := by unfold clamp at p3; omega
                go_wp2_with fail
                refine (value_any sn _ _ H3.out).mono ?_
                rintro e x9 ⟨rfl, rfl⟩
                go_wp2_with fail
                refine (value_any sn _ _ H3.out).mono ?_
                rintro e x10 ⟨rfl, rfl⟩
                go_wp2_with fail
                refine (value_any sn _ _ H3.out).mono ?_
                rintro e x11 ⟨rfl, rfl⟩
                go_wp2_with (go_at_call 9; refine (works_any _).mono ?_; rintro e w9 ⟨rfl, g9⟩)
                go_ret
                exact ⟨rfl, below_none HB2.out g9⟩
          · by_cases hp21 : m < t + 1
            · have p2 : m ≤ sn.v := by unfold clamp at p2; omega
              by_cases hp30 : t + 3 < l
              · omega
              · by_cases hp31 : m < t + 3
                · have p3 : sn.v ≤ m := by unfold clamp at p3; omega
                  go_wp2_with fail
                  refine (value_any sn _ _ H3.out).mono ?_
                  rintro e x15 ⟨rfl, rfl⟩
                  go_wp2_with fail
                  refine (value_any sn _ _ H3.out).mono ?_
                  rintro e x16 ⟨rfl, rfl⟩
                  go_wp2_with fail
                  refine (value_any sn _ _ H3.out).mono ?_
                  rintro e x17 ⟨rfl, rfl⟩
                  go_wp2_with (go_at_call 9; refine (works_any _).mono ?_; rintro e w9 ⟨rfl, g9⟩)
                  go_ret
                  exact ⟨rfl, below_none HB2.out g9⟩
                · omega
            · have p2 : t + 1 ≤ sn.v := by unfold clamp at p2; omega
              by_cases hp30 : t + 3 < l
              · omega
              · by_cases hp31 : m < t + 3
                · have p3 : sn.v ≤ m := by unfold clamp at p3; omega
                  go_wp2_with fail
                  refine (value_any sn _ _ H3.out).mono ?_
                  rintro e x24 ⟨rfl, rfl⟩
                  go_wp2_with fail
                  refine (value_any sn _ _ H3.out).mono ?_
                  rintro e x25 ⟨rfl, rfl⟩
                  go_wp2_with fail
                  refine (value_any sn _ _ H3.out).mono ?_
                  rintro e x26 ⟨rfl, rfl⟩
                  go_wp2_with (go_at_call 9; refine (works_any _).mono ?_; rintro e w9 ⟨rfl, g9⟩)
                  go_ret
                  exact ⟨rfl, below_none HB2.out g9⟩
                · have p3 : sn.v ≤ t + 3 := by unfold clamp at p3; omega
                  go_wp2_with fail
                  refine (value_any sn _ _ H3.out).mono ?_
                  rintro e x27 ⟨rfl, rfl⟩
                  go_wp2_with fail
                  refine (value_any sn _ _ H3.out).mono ?_
                  rintro e x28 ⟨rfl, rfl⟩
                  go_wp2_with fail
                  refine (value_any sn _ _ H3.out).mono ?_
                  rintro e x29 ⟨rfl, rfl⟩
                  go_wp2_with (go_at_call 9; refine (works_any _).mono ?_; rintro e w9 ⟨rfl, g9⟩)
                  go_ret
                  exact ⟨rfl, below_none HB2.out g9⟩

theorem rtoSteady.walk (W : World) (f : Int) (wf : (Lit.int .i64 f).wf = true) (l : Int) (wl : (Lit.int .i64 l).wf = true) (m : Int) (wm : (Lit.int .i64 m).wf = true) (t : Int) (wt : (Lit.int .i64 t).wf = true) :
    Calls Try.prog 5 #[.int .i64 f, .int .i64 l, .int .i64 m, .int .i64 t] W fun e w' => e = .returned (.bool true) ∧ Below W.heap.size W w' := by
  by_cases hf : fits f l m
  · have HF := Lib.hid hf
    clear hf
    by_cases h1 : t < 0
    · go_enter Try.func5, Try.ntmps5
      go_wp2_with fail
      refine (new_any f l m HF.out _).mono ?_
      rintro e w1 ⟨rfl, o1, g1⟩
      have O1 := Lib.hid o1
      have G1 := Lib.hid g1
      clear o1 g1
      go_wp2_with (go_at_call 9; refine (works_any _).mono ?_; rintro e w9 ⟨rfl, g9⟩)
      go_ret
      exact ⟨rfl, below_none (below_none (Below.refl _ _) G1.out) g9⟩
    · by_cases h2 : 1048576 < t
      · go_enter Try.func5, Try.ntmps5
        go_wp2_with fail
        refine (new_any f l m HF.out _).mono ?_
        rintro e w1 ⟨rfl, o1, g1⟩
        have O1 := Lib.hid o1
        have G1 := Lib.hid g1
        clear o1 g1
        go_wp2_with (go_at_call 9; refine (works_any _).mono ?_; rintro e w9 ⟨rfl, g9⟩)
        go_ret
        exact ⟨rfl, below_none (below_none (Below.refl _ _) G1.out) g9⟩
      · exact steady_good f l m t HF.out (by omega) (by omega) W
  · have HF := Lib.hid hf
    clear hf
    go_enter Try.func5, Try.ntmps5
    go_wp2_with fail
    refine (new_any_bad f l m HF.out _).mono ?_
    rintro e x30 ⟨rfl, rfl⟩
    go_wp2_with (go_at_call 9; refine (works_any _).mono ?_; rintro e w9 ⟨rfl, g9⟩)
    go_ret
    exact ⟨rfl, below_none (Below.refl _ _) g9⟩
end Go.Proofs.Ytkggggpikebbkaa
