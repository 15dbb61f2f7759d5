/- The window of package window and its reference, each method by the plain function that it computes. Conditions: the object lies in memory with these fields, within their ranges. -/
import Derived.Test.YtfboihbanehgcaaObj
namespace Go.Proofs.Ytfboihbanehgcaa
open Go.RowKit
set_option linter.unusedVariables false
set_option linter.unusedSimpArgs false

structure WS where
  mtu : Int
  most : Int
  size : Int
  thresh : Int
  part : Int

def WS.cells (x : WS) : List Value := [.int .i64 x.mtu, .int .i64 x.most, .int .i64 x.size, .int .i64 x.thresh, .int .i64 x.part]
/-- Fields that may be: p bounds the part. -/
def WS.ok (x : WS) (p : Int) : Prop := 128 ≤ x.mtu ∧ x.mtu ≤ 1500 ∧ 4 * x.mtu ≤ x.most ∧ x.most ≤ 16777216 ∧ x.mtu ≤ x.size ∧ x.size ≤ x.most ∧ 4 * x.mtu ≤ x.thresh ∧ x.thresh ≤ x.most ∧ 0 ≤ x.part ∧ x.part ≤ p
def wfits (mtu most : Int) : Prop := 128 ≤ mtu ∧ mtu ≤ 1500 ∧ 4 * mtu ≤ most ∧ most ≤ 16777216
instance (a b : Int) : Decidable (wfits a b) := by unfold wfits; infer_instance
def WS.init (mtu most : Int) : WS := ⟨mtu, most, 2 * mtu, most, 0⟩
def WS.slow (x : WS) (n : Int) (full : Bool) : WS := ⟨x.mtu, x.most, if full = true then x.size + min n x.mtu else x.size, x.thresh, x.part⟩
def WS.avoid (x : WS) (n : Int) (full : Bool) : WS :=
  if full = true ∧ x.size ≤ x.part + min n x.most then ⟨x.mtu, x.most, x.size + x.mtu, x.thresh, x.part + min n x.most - x.size⟩ else ⟨x.mtu, x.most, x.size, x.thresh, x.part + min n x.most⟩
def WS.grow (x : WS) (n : Int) (full : Bool) : WS := if x.thresh < x.size then x.avoid n full else x.slow n full
def WS.cap (x : WS) : WS := ⟨x.mtu, x.most, min x.size x.most, x.thresh, x.part⟩
def WS.acked (x : WS) (n : Int) (full : Bool) : WS := if n < 1 then x else (x.grow n full).cap
def WS.lower (x : WS) : WS := ⟨x.mtu, x.most, x.size, max (x.size / 2) (4 * x.mtu), 0⟩
def WS.fast (x : WS) : WS := ⟨x.mtu, x.most, min x.size (max (x.size / 2) (4 * x.mtu)), max (x.size / 2) (4 * x.mtu), 0⟩
def WS.timeout (x : WS) : WS := ⟨x.mtu, x.most, x.mtu, max (x.size / 2) (4 * x.mtu), 0⟩

theorem wok_init {a b p : Int} (h : wfits a b) (hp : 0 ≤ p) : (WS.init a b).ok p := by unfold wfits at h; unfold WS.ok WS.init; simp only; omega
theorem wok_more {x : WS} {p q : Int} (h : x.ok p) (hq : p ≤ q) : x.ok q := by unfold WS.ok at *; omega
theorem wok_acked {x : WS} {p : Int} (h : x.ok p) (hp : 0 ≤ p) (n : Int) (full : Bool) : (x.acked n full).ok (p + 16777216) := by
  unfold WS.acked
  by_cases h1 : n < 1
  · rw [if_pos h1]; exact wok_more h (by omega)
  · rw [if_neg h1]
    unfold WS.ok at *
    unfold WS.grow
    by_cases h2 : x.thresh < x.size
    · rw [if_pos h2]
      unfold WS.avoid
      by_cases h3 : full = true ∧ x.size ≤ x.part + min n x.most
      · rw [if_pos h3]; simp only [WS.cap]; omega
      · rw [if_neg h3]; simp only [WS.cap]; omega
    · rw [if_neg h2]
      simp only [WS.slow, WS.cap]
      split <;> omega
theorem wok_fast {x : WS} {p : Int} (h : x.ok p) (hp : 0 ≤ p) : x.fast.ok p := by unfold WS.ok at *; simp only [WS.fast]; omega
theorem wok_timeout {x : WS} {p : Int} (h : x.ok p) (hp : 0 ≤ p) : x.timeout.ok p := by unfold WS.ok at *; simp only [WS.timeout]; omega

set_option maxHeartbeats 400000 in
theorem wnew_any (a b : Int) (h : wfits a b) (w : World) :
    Calls Try.prog 26 #[.int .i64 a, .int .i64 b] w fun e w' => e = .returned (.tuple #[.pointer (some ⟨w.heap.size, 0, none⟩), .int .i64 0]) ∧ obj w' w.heap.size 81 (WS.init a b).cells ∧ w.grownBy w' none := by
  unfold wfits at h
  obtain ⟨k1, k2, k3, k4⟩ := h
  go_enter Try.func26, Try.ntmps26
  go_wp2
  go_ret2
  exact ⟨rfl, obj.new _ _ _, only_alloc (only_refl _ _) _⟩

set_option maxHeartbeats 400000 in
theorem wnew_any_bad (a b : Int) (ha : -9223372036854775808 ≤ a ∧ a ≤ 9223372036854775807) (h : ¬ wfits a b) (w : World) :
    Calls Try.prog 26 #[.int .i64 a, .int .i64 b] w fun e w' => e = .returned (.tuple #[.pointer none, .int .i64 1]) ∧ w = w' := by
  by_cases h1 : a < 128
  · clear h
    go_enter Try.func26, Try.ntmps26
    go_wp2
    all_goals go_ret2
    all_goals exact ⟨rfl, rfl⟩
  by_cases h2 : 1500 < a
  · clear h
    go_enter Try.func26, Try.ntmps26
    go_wp2
    all_goals go_ret2
    all_goals exact ⟨rfl, rfl⟩
  by_cases h3 : b < 4 * a
  · clear h
    go_enter Try.func26, Try.ntmps26
    go_wp2
    all_goals go_ret2
    all_goals exact ⟨rfl, rfl⟩
  · have h4 : 16777216 < b := by unfold wfits at h; omega
    clear h
    go_enter Try.func26, Try.ntmps26
    go_wp2
    all_goals go_ret2
    all_goals exact ⟨rfl, rfl⟩

set_option maxHeartbeats 400000 in
theorem size_any (x : WS) (b : Nat) (w : World) (hx : obj w b 81 x.cells) :
    Calls Try.prog 29 #[.pointer (some ⟨b, 0, none⟩)] w fun e w' => e = .returned (.int .i64 x.size) ∧ w = w' := by
  have c0 := hx.cell 2 rfl
  go_enter Try.func29, Try.ntmps29
  go_wp2
  go_ret
  exact ⟨rfl, rfl⟩

set_option maxHeartbeats 400000 in
theorem wnew_ref (a b : Int) (h : wfits a b) (w : World) :
    Calls Try.prog 42 #[.int .i64 a, .int .i64 b] w fun e w' => e = .returned (.tuple #[.pointer (some ⟨w.heap.size, 0, none⟩), .int .i64 0]) ∧ obj w' w.heap.size 85 (WS.init a b).cells ∧ w.grownBy w' none := by
  unfold wfits at h
  obtain ⟨k1, k2, k3, k4⟩ := h
  go_enter Try.func42, Try.ntmps42
  go_wp2
  go_ret2
  exact ⟨rfl, obj.new _ _ _, only_alloc (only_refl _ _) _⟩

set_option maxHeartbeats 400000 in
theorem wnew_ref_bad (a b : Int) (ha : -9223372036854775808 ≤ a ∧ a ≤ 9223372036854775807) (h : ¬ wfits a b) (w : World) :
    Calls Try.prog 42 #[.int .i64 a, .int .i64 b] w fun e w' => e = .returned (.tuple #[.pointer none, .int .i64 1]) ∧ w = w' := by
  by_cases h1 : a < 128
  · clear h
    go_enter Try.func42, Try.ntmps42
    go_wp2
    all_goals go_ret2
    all_goals exact ⟨rfl, rfl⟩
  by_cases h2 : 1500 < a
  · clear h
    go_enter Try.func42, Try.ntmps42
    go_wp2
    all_goals go_ret2
    all_goals exact ⟨rfl, rfl⟩
  by_cases h3 : b < 4 * a
  · clear h
    go_enter Try.func42, Try.ntmps42
    go_wp2
    all_goals go_ret2
    all_goals exact ⟨rfl, rfl⟩
  · have h4 : 16777216 < b := by unfold wfits at h; omega
    clear h
    go_enter Try.func42, Try.ntmps42
    go_wp2
    all_goals go_ret2
    all_goals exact ⟨rfl, rfl⟩

set_option maxHeartbeats 400000 in
theorem size_ref (x : WS) (b : Nat) (w : World) (hx : obj w b 85 x.cells) :
    Calls Try.prog 55 #[.pointer (some ⟨b, 0, none⟩)] w fun e w' => e = .returned (.int .i64 x.size) ∧ w = w' := by
  have c0 := hx.cell 2 rfl
  go_enter Try.func55, Try.ntmps55
  go_wp2
  go_ret
  exact ⟨rfl, rfl⟩
end Go.Proofs.Ytfboihbanehgcaa
