/- New of the estimator and of its reference; the package's anchor. Conditions: whether the three numbers may be. -/
import Derived.Test.YtfboihbanehgcaaRtoRef
namespace Go.Proofs.Ytfboihbanehgcaa
open Go.RowKit
set_option linter.unusedVariables false
set_option linter.unusedSimpArgs false

theorem clamp_id {f l m : Int} (h : fits f l m) : clamp f l m = f := by unfold fits at h; unfold clamp; omega

set_option maxHeartbeats 400000 in
theorem new_any (f l m : Int) (h : fits f l m) (w : World) :
    Calls Try.prog 25 #[.int .i64 f, .int .i64 l, .int .i64 m] w fun e w' => e = .returned (.tuple #[.pointer (some ⟨w.heap.size, 0, none⟩), .int .i64 0]) ∧ obj w' w.heap.size 79 (RS.init f l m).cells ∧ w.grownBy w' none := by
  have hc : (f != clamp f l m) = false := by rw [clamp_id h]; simp
  unfold fits at h
  obtain ⟨k1, k2, k3, k4⟩ := h
  have k5 : l ≤ m := by omega
  go_enter Try.func25, Try.ntmps25
  go_wp2_with (go_at_call 51; refine (between_any _ _ _ _).mono ?_; rintro e w' ⟨rfl, rfl⟩)
  go_ret2
  exact ⟨rfl, obj.new _ _ _, only_alloc (only_refl _ _) _⟩
set_option maxHeartbeats 400000 in
theorem new_any_bad (f l m : Int) (h : ¬ fits f l m) (w : World) :
    Calls Try.prog 25 #[.int .i64 f, .int .i64 l, .int .i64 m] w fun e w' => e = .returned (.tuple #[.pointer none, .int .i64 1]) ∧ w = w' := by
  by_cases h1 : l < 1
  · clear h
    go_enter Try.func25, Try.ntmps25
    go_wp2_with (go_at_call 51; refine (between_any _ _ _ _).mono ?_; rintro e w' ⟨rfl, rfl⟩)
    go_ret2
    exact ⟨rfl, rfl⟩
  by_cases h2 : 1048576 < m
  · clear h
    go_enter Try.func25, Try.ntmps25
    go_wp2_with (go_at_call 51; refine (between_any _ _ _ _).mono ?_; rintro e w' ⟨rfl, rfl⟩)
    all_goals go_ret2
    all_goals exact ⟨rfl, rfl⟩
  by_cases h3 : m < l
  · clear h
    go_enter Try.func25, Try.ntmps25
    go_wp2_with (go_at_call 51; refine (between_any _ _ _ _).mono ?_; rintro e w' ⟨rfl, rfl⟩)
    all_goals go_ret2
    all_goals exact ⟨rfl, rfl⟩
  · have h4 : f < l ∨ m < f := by unfold fits at h; omega
    have hc : (f != clamp f l m) = true := by simp [clamp]; omega
    clear h
    go_enter Try.func25, Try.ntmps25
    go_wp2_with (go_at_call 51; refine (between_any _ _ _ _).mono ?_; rintro e w' ⟨rfl, rfl⟩)
    all_goals go_ret2
    all_goals exact ⟨rfl, rfl⟩

set_option maxHeartbeats 400000 in
theorem new_ref (f l m : Int) (h : fits f l m) (w : World) :
    Calls Try.prog 41 #[.int .i64 f, .int .i64 l, .int .i64 m] w fun e w' => e = .returned (.tuple #[.pointer (some ⟨w.heap.size, 0, none⟩), .int .i64 0]) ∧ obj w' w.heap.size 83 (RS.init f l m).cells ∧ w.grownBy w' none := by
  have hc : (f != clamp f l m) = false := by rw [clamp_id h]; simp
  unfold fits at h
  obtain ⟨k1, k2, k3, k4⟩ := h
  have k5 : l ≤ m := by omega
  go_enter Try.func41, Try.ntmps41
  go_wp2
  go_ret2
  exact ⟨rfl, obj.new _ _ _, only_alloc (only_refl _ _) _⟩
set_option maxHeartbeats 400000 in
theorem new_ref_bad (f l m : Int) (h : ¬ fits f l m) (w : World) :
    Calls Try.prog 41 #[.int .i64 f, .int .i64 l, .int .i64 m] w fun e w' => e = .returned (.tuple #[.pointer none, .int .i64 1]) ∧ w = w' := by
  by_cases h1 : l < 1
  · clear h
    go_enter Try.func41, Try.ntmps41
    go_wp2
    go_ret2
    exact ⟨rfl, rfl⟩
  by_cases h2 : 1048576 < m
  · clear h
    go_enter Try.func41, Try.ntmps41
    go_wp2
    all_goals go_ret2
    all_goals exact ⟨rfl, rfl⟩
  by_cases h3 : m < l
  · clear h
    go_enter Try.func41, Try.ntmps41
    go_wp2
    all_goals go_ret2
    all_goals exact ⟨rfl, rfl⟩
  · have h4 : f < l ∨ m < f := by unfold fits at h; omega
    have hc : (f != clamp f l m) = true := by simp [clamp]; omega
    clear h
    go_enter Try.func41, Try.ntmps41
    go_wp2
    all_goals go_ret2
    all_goals exact ⟨rfl, rfl⟩
end Go.Proofs.Ytfboihbanehgcaa
