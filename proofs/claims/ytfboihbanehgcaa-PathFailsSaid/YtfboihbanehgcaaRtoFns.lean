/- The estimator of package rto and its reference, each method by the plain function that it computes. Conditions: the object lies in memory with these fields, within their ranges. -/
import Derived.Test.YtfboihbanehgcaaObj
namespace Go.Proofs.Ytfboihbanehgcaa
open Go.RowKit
set_option linter.unusedVariables false
set_option linter.unusedSimpArgs false

/-- An estimator's fields. -/
structure RS where
  v : Int
  l : Int
  m : Int
  any : Bool
  s : Int
  y : Int

def RS.cells (x : RS) : List Value := [.int .i64 x.v, .int .i64 x.l, .int .i64 x.m, .bool x.any, .int .i64 x.s, .int .i64 x.y]
def clamp (x a b : Int) : Int := min (max x a) b
/-- The fields that may be. -/
def RS.ok (x : RS) : Prop := 1 ≤ x.l ∧ x.l ≤ x.m ∧ x.m ≤ 1048576 ∧ x.l ≤ x.v ∧ x.v ≤ x.m ∧ 0 ≤ x.s ∧ x.s ≤ 8388608 ∧ 0 ≤ x.y ∧ x.y ≤ 4194304
def RS.init (f l m : Int) : RS := ⟨f, l, m, false, 0, 0⟩
def fits (f l m : Int) : Prop := 1 ≤ l ∧ l ≤ f ∧ f ≤ m ∧ m ≤ 1048576
instance (f l m : Int) : Decidable (fits f l m) := by unfold fits; infer_instance
/-- What a sample t ≥ 0 makes of it. -/
def ns (x : RS) (t : Int) : Int := if x.any = true then x.s + (min t 1048576 - x.s / 8) else 8 * min t 1048576
def ny (x : RS) (t : Int) : Int := if x.any = true then x.y + (max (x.s / 8 - min t 1048576) (-(x.s / 8 - min t 1048576)) - x.y / 4) else 2 * min t 1048576
def RS.sample (x : RS) (t : Int) : RS := ⟨clamp (ns x t / 8 + max 1 (ny x t)) x.l x.m, x.l, x.m, true, ns x t, ny x t⟩
def RS.back (x : RS) : RS := ⟨min (2 * x.v) x.m, x.l, x.m, x.any, x.s, x.y⟩
def RS.smooth (x : RS) : Int := if x.any = true then x.s / 8 else 0

theorem ns_bd {x : RS} (h : x.ok) {t : Int} (ht : 0 ≤ t) : 0 ≤ ns x t ∧ ns x t ≤ 8388608 := by
  unfold RS.ok at h; unfold ns; split <;> omega
theorem ny_bd {x : RS} (h : x.ok) {t : Int} (ht : 0 ≤ t) : 0 ≤ ny x t ∧ ny x t ≤ 4194304 := by
  unfold RS.ok at h; unfold ny; split <;> omega
theorem clamp_bd {x a b : Int} (h : a ≤ b) : a ≤ clamp x a b ∧ clamp x a b ≤ b := by unfold clamp; omega
theorem ok_init {f l m : Int} (h : fits f l m) : (RS.init f l m).ok := by
  unfold fits at h; unfold RS.ok RS.init; simp; omega
theorem ok_sample {x : RS} (h : x.ok) {t : Int} (ht : 0 ≤ t) : (x.sample t).ok := by
  have h1 := ns_bd h ht
  have h2 := ny_bd h ht
  have h' := h
  unfold RS.ok at h'
  have h3 := clamp_bd (x := ns x t / 8 + max 1 (ny x t)) h'.2.1
  unfold RS.ok RS.sample
  simp only
  omega
theorem ok_back {x : RS} (h : x.ok) : x.back.ok := by
  unfold RS.ok at *; unfold RS.back; simp only; omega

set_option maxHeartbeats 400000 in
theorem between_any (x a b : Int) (w : World) :
    Calls Try.prog 51 #[.int .i64 x, .int .i64 a, .int .i64 b] w fun e w' => e = .returned (.int .i64 (clamp x a b)) ∧ w = w' := by
  go_enter Try.func51, Try.ntmps51
  go_wp2
  all_goals go_ret
  all_goals exact ⟨ret_int (by unfold clamp; omega), rfl⟩

set_option maxHeartbeats 400000 in
theorem value_any (x : RS) (b : Nat) (w : World) (hx : obj w b 79 x.cells) :
    Calls Try.prog 40 #[.pointer (some ⟨b, 0, none⟩)] w fun e w' => e = .returned (.int .i64 x.v) ∧ w = w' := by
  have c0 := hx.cell 0 rfl
  go_enter Try.func40, Try.ntmps40
  go_wp2
  go_ret
  exact ⟨rfl, rfl⟩

set_option maxHeartbeats 400000 in
theorem value_any_nil (w : World) :
    Calls Try.prog 40 #[.pointer none] w fun e w' => e = .returned (.int .i64 0) ∧ w = w' := by
  go_enter Try.func40, Try.ntmps40
  go_wp2
  go_ret
  exact ⟨rfl, rfl⟩

set_option maxHeartbeats 400000 in
theorem back_any (x : RS) (hok : x.ok) (b : Nat) (w : World) (hx : obj w b 79 x.cells) :
    Calls Try.prog 57 #[.pointer (some ⟨b, 0, none⟩)] w fun e w' => e = .returned (.tuple #[]) ∧ obj w' b 79 x.back.cells ∧ w.grownBy w' (some b) := by
  obtain ⟨v, l, m, an, s, y⟩ := x
  obtain ⟨k1, k2, k3, k4, k5, k6, k7, k8, k9⟩ := hok
  simp only at k1 k2 k3 k4 k5 k6 k7 k8 k9
  have c0 := hx.cell 0 rfl
  have c1 := hx.cell 2 rfl
  have f0 := hx.free 0
  simp only at c0 c1
  have H := Lib.hid hx
  clear hx
  go_enter Try.func57, Try.ntmps57
  go_wp2
  go_region
  go_end0
  refine ⟨rfl, ?_, only_drew (only_set (only_refl _ _) _)⟩
  have e : (if m < 2 * v then m else 2 * v) = min (2 * v) m := by omega
  rw [e]
  exact H.out.set 0 (.int .i64 (min (2 * v) m))

set_option maxHeartbeats 400000 in
theorem back_any_nil (w : World) :
    Calls Try.prog 57 #[.pointer none] w fun e w' => e = .returned (.tuple #[]) ∧ w = w' := by
  go_enter Try.func57, Try.ntmps57
  go_wp2
  go_end0
  exact ⟨rfl, rfl⟩

set_option maxHeartbeats 400000 in
theorem sample_any_nil (t : Int) (w : World) :
    Calls Try.prog 50 #[.pointer none, .int .i64 t] w fun e w' => e = .returned (.int .i64 2) ∧ w = w' := by
  go_enter Try.func50, Try.ntmps50
  go_wp2
  go_ret
  exact ⟨rfl, rfl⟩

set_option maxHeartbeats 400000 in
theorem sample_any_neg (b : Nat) (t : Int) (ht : t < 0) (w : World) :
    Calls Try.prog 50 #[.pointer (some ⟨b, 0, none⟩), .int .i64 t] w fun e w' => e = .returned (.int .i64 1) ∧ w = w' := by
  go_enter Try.func50, Try.ntmps50
  go_wp2
  go_ret
  exact ⟨rfl, rfl⟩

set_option maxHeartbeats 400000 in
theorem value_ref (x : RS) (b : Nat) (w : World) (hx : obj w b 83 x.cells) :
    Calls Try.prog 54 #[.pointer (some ⟨b, 0, none⟩)] w fun e w' => e = .returned (.int .i64 x.v) ∧ w = w' := by
  have c0 := hx.cell 0 rfl
  go_enter Try.func54, Try.ntmps54
  go_wp2
  go_ret
  exact ⟨rfl, rfl⟩

set_option maxHeartbeats 400000 in
theorem value_ref_nil (w : World) :
    Calls Try.prog 54 #[.pointer none] w fun e w' => e = .returned (.int .i64 0) ∧ w = w' := by
  go_enter Try.func54, Try.ntmps54
  go_wp2
  go_ret
  exact ⟨rfl, rfl⟩

set_option maxHeartbeats 400000 in
theorem back_ref (x : RS) (hok : x.ok) (b : Nat) (w : World) (hx : obj w b 83 x.cells) :
    Calls Try.prog 65 #[.pointer (some ⟨b, 0, none⟩)] w fun e w' => e = .returned (.tuple #[]) ∧ obj w' b 83 x.back.cells ∧ w.grownBy w' (some b) := by
  obtain ⟨v, l, m, an, s, y⟩ := x
  obtain ⟨k1, k2, k3, k4, k5, k6, k7, k8, k9⟩ := hok
  simp only at k1 k2 k3 k4 k5 k6 k7 k8 k9
  have c0 := hx.cell 0 rfl
  have c1 := hx.cell 2 rfl
  have f0 := hx.free 0
  simp only at c0 c1
  have H := Lib.hid hx
  clear hx
  go_enter Try.func65, Try.ntmps65
  go_wp2
  go_region
  go_end0
  refine ⟨rfl, ?_, only_drew (only_set (only_refl _ _) _)⟩
  have e : (if m < 2 * v then m else 2 * v) = min (2 * v) m := by omega
  rw [e]
  exact H.out.set 0 (.int .i64 (min (2 * v) m))

set_option maxHeartbeats 400000 in
theorem back_ref_nil (w : World) :
    Calls Try.prog 65 #[.pointer none] w fun e w' => e = .returned (.tuple #[]) ∧ w = w' := by
  go_enter Try.func65, Try.ntmps65
  go_wp2
  go_end0
  exact ⟨rfl, rfl⟩

set_option maxHeartbeats 400000 in
theorem sample_ref_nil (t : Int) (w : World) :
    Calls Try.prog 58 #[.pointer none, .int .i64 t] w fun e w' => e = .returned (.int .i64 2) ∧ w = w' := by
  go_enter Try.func58, Try.ntmps58
  go_wp2
  go_ret
  exact ⟨rfl, rfl⟩

set_option maxHeartbeats 400000 in
theorem sample_ref_neg (b : Nat) (t : Int) (ht : t < 0) (w : World) :
    Calls Try.prog 58 #[.pointer (some ⟨b, 0, none⟩), .int .i64 t] w fun e w' => e = .returned (.int .i64 1) ∧ w = w' := by
  go_enter Try.func58, Try.ntmps58
  go_wp2
  go_ret
  exact ⟨rfl, rfl⟩

/-- What stands in memory ahead of the last line of Sample. -/
def Sampled (w : World) (b : Nat) (T : TypeId) (x : RS) (t : Int) (w' : World) : Prop :=
  obj w' b T [.int .i64 x.v, .int .i64 x.l, .int .i64 x.m, .bool true, .int .i64 (ns x t), .int .i64 (ny x t)] ∧ w.grownBy w' (some b)
set_option maxRecDepth 100000 in
set_option maxHeartbeats 2000000 in
theorem sample_any (x : RS) (hok : x.ok) (b : Nat) (t : Int) (ht : 0 ≤ t) (ht2 : t ≤ 9223372036854775807) (w : World) (hx : obj w b 79 x.cells) :
    Calls Try.prog 50 #[.pointer (some ⟨b, 0, none⟩), .int .i64 t] w fun e w' => e = .returned (.int .i64 0) ∧ obj w' b 79 (x.sample t).cells ∧ w.grownBy w' (some b) := by
  have e1 := ns_bd hok ht
  have e2 := ny_bd hok ht
  obtain ⟨v, l, m, an, s, y⟩ := x
  obtain ⟨k1, k2, k3, k4, k5, k6, k7, k8, k9⟩ := hok
  simp only at k1 k2 k3 k4 k5 k6 k7 k8 k9
  have c3 := hx.cell 3 rfl
  have c4 := hx.cell 4 rfl
  have c5 := hx.cell 5 rfl
  have f3 := hx.free 3
  have f4 := hx.free 4
  have f5 := hx.free 5
  simp only at c3 c4 c5
  have H := Lib.hid hx
  clear hx
  by_cases h1 : 1048576 < t
  · go_enter Try.func50, Try.ntmps50
    go_upto_if 17 with (fail)
    go_cut [] (fun wc => Sampled w b 79 ⟨v, l, m, an, s, y⟩ t wc)
    case first =>
      cases an
      · go_wp2
        go_meet
        refine ⟨?_, by repeat (first | exact only_refl _ _ | apply only_drew | apply only_set)⟩
        have e : ns ⟨v, l, m, false, s, y⟩ t = 8 * 1048576 ∧ ny ⟨v, l, m, false, s, y⟩ t = 2 * 1048576 := by simp [ns, ny]; omega
        rw [e.1, e.2]
        exact ((H.out.set 3 (.bool true)).set 4 (.int .i64 (8 * 1048576))).set 5 (.int .i64 (2 * 1048576))
      · have e : ns ⟨v, l, m, true, s, y⟩ t = s + (1048576 - s / 8) := by simp [ns]; omega
        have E := Lib.hid e
        clear e
        by_cases h2 : s / 8 < 1048576
        · have e : ny ⟨v, l, m, true, s, y⟩ t = y + (-(s / 8 - 1048576) - y / 4) := by simp [ny]; omega
          have F := Lib.hid e
          clear e
          go_wp2
          go_region
          go_wp2
          go_region
          go_wp2_with fail
          go_meet
          refine ⟨?_, by repeat (first | exact only_refl _ _ | apply only_drew | apply only_set)⟩
          rw [E.out, F.out]
          exact (H.out.set 5 (.int .i64 (y + (-(s / 8 - 1048576) - y / 4)))).set 4 (.int .i64 (s + (1048576 - s / 8)))
        · have e : ny ⟨v, l, m, true, s, y⟩ t = y + (s / 8 - 1048576 - y / 4) := by simp [ny]; omega
          have F := Lib.hid e
          clear e
          go_wp2
          go_region
          go_wp2
          go_region
          go_wp2_with fail
          go_meet
          refine ⟨?_, by repeat (first | exact only_refl _ _ | apply only_drew | apply only_set)⟩
          rw [E.out, F.out]
          exact (H.out.set 5 (.int .i64 (y + (s / 8 - 1048576 - y / 4)))).set 4 (.int .i64 (s + (1048576 - s / 8)))
    case rest =>
      obtain ⟨ho, hg⟩ := hcut
      simp only at ho e1 e2
      generalize hN : ns ⟨v, l, m, an, s, y⟩ t = N at *
      generalize hY : ny ⟨v, l, m, an, s, y⟩ t = Y at *
      have EN := Lib.hid hN
      have EY := Lib.hid hY
      obtain ⟨wd, hwd⟩ : ∃ wd, wd = wc.drew := ⟨_, rfl⟩
      have ho := ho.drew
      rw [← hwd] at ho
      have hg : w.grownBy wd (some b) := by rw [hwd]; exact only_drew hg
      have HW := Lib.hid hwd
      clear hwd
      have d0 := ho.cell 0 rfl
      have d1 := ho.cell 1 rfl
      have d2 := ho.cell 2 rfl
      have d4 := ho.cell 4 rfl
      have d5 := ho.cell 5 rfl
      have g0 := ho.free 0
      have HO := Lib.hid ho
      have HG := Lib.hid hg
      clear ho hg c3 c4 c5 f3 f4 f5 H hN hY
      by_cases hm : 1 < Y
      all_goals go_wp2
      all_goals refine region_tail 21 (by kernel_rfl) (by kernel_rfl) wd HW.out ?_
      all_goals simp only [List.take_succ_cons, List.take_zero, List.drop_succ_cons, List.drop_zero]
      all_goals iterate 20 still_step
      all_goals still_call (calls_flip (between_any _ _ _ _))
      all_goals refine wpStill_nil ?_
      all_goals go_wp2
      all_goals go_ret
      all_goals refine ⟨rfl, ?_, only_trans HG.out (by repeat (first | exact only_refl _ _ | apply only_drew | apply only_set))⟩
      · have e : RS.sample ⟨v, l, m, an, s, y⟩ t = ⟨clamp (N / 8 + Y) l m, l, m, true, N, Y⟩ := by
          unfold RS.sample; rw [EN.out, EY.out, show max 1 Y = Y by omega]
        rw [e]
        exact HO.out.set 0 (.int .i64 (clamp (N / 8 + Y) l m))
      · have e : RS.sample ⟨v, l, m, an, s, y⟩ t = ⟨clamp (N / 8 + 1) l m, l, m, true, N, Y⟩ := by
          unfold RS.sample; rw [EN.out, EY.out, show max 1 Y = 1 by omega]
        rw [e]
        exact HO.out.set 0 (.int .i64 (clamp (N / 8 + 1) l m))
  · go_enter Try.func50, Try.ntmps50
    go_upto_if 17 with (fail)
    go_cut [] (fun wc => Sampled w b 79 ⟨v, l, m, an, s, y⟩ t wc)
    case first =>
      cases an
      · go_wp2
        go_meet
        refine ⟨?_, by repeat (first | exact only_refl _ _ | apply only_drew | apply only_set)⟩
        have e : ns ⟨v, l, m, false, s, y⟩ t = 8 * t ∧ ny ⟨v, l, m, false, s, y⟩ t = 2 * t := by simp [ns, ny]; omega
        rw [e.1, e.2]
        exact ((H.out.set 3 (.bool true)).set 4 (.int .i64 (8 * t))).set 5 (.int .i64 (2 * t))
      · have e : ns ⟨v, l, m, true, s, y⟩ t = s + (t - s / 8) := by simp [ns]; omega
        have E := Lib.hid e
        clear e
        by_cases h2 : s / 8 < t
        · have e : ny ⟨v, l, m, true, s, y⟩ t = y + (-(s / 8 - t) - y / 4) := by simp [ny]; omega
          have F := Lib.hid e
          clear e
          go_wp2
          go_region
          go_wp2
          go_region
          go_wp2_with fail
          go_meet
          refine ⟨?_, by repeat (first | exact only_refl _ _ | apply only_drew | apply only_set)⟩
          rw [E.out, F.out]
          exact (H.out.set 5 (.int .i64 (y + (-(s / 8 - t) - y / 4)))).set 4 (.int .i64 (s + (t - s / 8)))
        · have e : ny ⟨v, l, m, true, s, y⟩ t = y + (s / 8 - t - y / 4) := by simp [ny]; omega
          have F := Lib.hid e
          clear e
          go_wp2
          go_region
          go_wp2
          go_region
          go_wp2_with fail
          go_meet
          refine ⟨?_, by repeat (first | exact only_refl _ _ | apply only_drew | apply only_set)⟩
          rw [E.out, F.out]
          exact (H.out.set 5 (.int .i64 (y + (s / 8 - t - y / 4)))).set 4 (.int .i64 (s + (t - s / 8)))
    case rest =>
      obtain ⟨ho, hg⟩ := hcut
      simp only at ho e1 e2
      generalize hN : ns ⟨v, l, m, an, s, y⟩ t = N at *
      generalize hY : ny ⟨v, l, m, an, s, y⟩ t = Y at *
      have EN := Lib.hid hN
      have EY := Lib.hid hY
      obtain ⟨wd, hwd⟩ : ∃ wd, wd = wc.drew := ⟨_, rfl⟩
      have ho := ho.drew
      rw [← hwd] at ho
      have hg : w.grownBy wd (some b) := by rw [hwd]; exact only_drew hg
      have HW := Lib.hid hwd
      clear hwd
      have d0 := ho.cell 0 rfl
      have d1 := ho.cell 1 rfl
      have d2 := ho.cell 2 rfl
      have d4 := ho.cell 4 rfl
      have d5 := ho.cell 5 rfl
      have g0 := ho.free 0
      have HO := Lib.hid ho
      have HG := Lib.hid hg
      clear ho hg c3 c4 c5 f3 f4 f5 H hN hY
      by_cases hm : 1 < Y
      all_goals go_wp2
      all_goals refine region_tail 21 (by kernel_rfl) (by kernel_rfl) wd HW.out ?_
      all_goals simp only [List.take_succ_cons, List.take_zero, List.drop_succ_cons, List.drop_zero]
      all_goals iterate 20 still_step
      all_goals still_call (calls_flip (between_any _ _ _ _))
      all_goals refine wpStill_nil ?_
      all_goals go_wp2
      all_goals go_ret
      all_goals refine ⟨rfl, ?_, only_trans HG.out (by repeat (first | exact only_refl _ _ | apply only_drew | apply only_set))⟩
      · have e : RS.sample ⟨v, l, m, an, s, y⟩ t = ⟨clamp (N / 8 + Y) l m, l, m, true, N, Y⟩ := by
          unfold RS.sample; rw [EN.out, EY.out, show max 1 Y = Y by omega]
        rw [e]
        exact HO.out.set 0 (.int .i64 (clamp (N / 8 + Y) l m))
      · have e : RS.sample ⟨v, l, m, an, s, y⟩ t = ⟨clamp (N / 8 + 1) l m, l, m, true, N, Y⟩ := by
          unfold RS.sample; rw [EN.out, EY.out, show max 1 Y = 1 by omega]
        rw [e]
        exact HO.out.set 0 (.int .i64 (clamp (N / 8 + 1) l m))
end Go.Proofs.Ytfboihbanehgcaa
