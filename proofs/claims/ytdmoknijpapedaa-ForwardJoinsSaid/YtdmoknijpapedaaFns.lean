/- The functions of package serial and of its reference, each by the plain function that it computes. No condition beyond the numbers' own ranges. -/
import Derived.Test.YtdmoknijpapedaaBase
namespace Go.Proofs.Ytdmoknijpapedaa
open Go.RowKit
set_option linter.unusedVariables false
set_option linter.unusedSimpArgs false

/-- Does a come ahead of b, modulo m? -/
def lss (m a b : Int) : Bool := decide (1 ≤ (b - a) % m ∧ 2 * ((b - a) % m) < m)
def mx (m a b : Int) : Int := if lss m a b = true then b else a
def inn (m x base width : Int) : Bool := decide (1 ≤ (x - base) % m ∧ 1 ≤ width ∧ (x - base) % m ≤ width)

theorem lss_mk {m a b : Int} (h1 : 1 ≤ (b - a) % m) (h2 : 2 * ((b - a) % m) < m) : lss m a b = true := by simp [lss, h1, h2]
theorem lss_no {m a b : Int} (h : (b - a) % m < 1 ∨ m ≤ 2 * ((b - a) % m)) : lss m a b = false := by simp [lss]; omega
theorem inn_mk {m a b c : Int} (h1 : 1 ≤ (a - b) % m) (h2 : 1 ≤ c) (h3 : (a - b) % m ≤ c) : inn m a b c = true := by simp [inn, h1, h2, h3]
theorem inn_no {m a b c : Int} (h : (a - b) % m < 1 ∨ c < 1 ∨ c < (a - b) % m) : inn m a b c = false := by simp [inn]; omega
theorem top32 : bits BinOp.xor IntKind.u32 IntKind.u32.max 0 = 4294967295 := by decide +kernel
theorem top16 : bits BinOp.xor IntKind.u16 IntKind.u16.max 0 = 65535 := by decide +kernel

set_option maxHeartbeats 400000 in
theorem less_u32 (a b : Int) (w : World) :
    Calls Try.prog 23 #[.int .u32 a, .int .u32 b] w fun e w' => e = .returned (.bool (lss 4294967296 a b)) ∧ w = w' := by
  have ht := top32
  go_enter Try.func23, Try.ntmps23
  go_wp2
  all_goals go_ret
  all_goals refine ⟨ret_bool ?_, rfl⟩
  all_goals (try simp only [IntKind.wrap_u16, IntKind.wrap_u64] at *)
  · rw [Bool.eq_iff_iff]; simp [lss]; omega
  · exact (lss_no (Or.inl (by omega))).symm

set_option maxHeartbeats 400000 in
theorem less_u16 (a b : Int) (w : World) :
    Calls Try.prog 25 #[.int .u16 a, .int .u16 b] w fun e w' => e = .returned (.bool (lss 65536 a b)) ∧ w = w' := by
  have ht := top16
  go_enter Try.func25, Try.ntmps25
  go_wp2
  all_goals go_ret
  all_goals refine ⟨ret_bool ?_, rfl⟩
  all_goals (try simp only [IntKind.wrap_u16, IntKind.wrap_u64] at *)
  · rw [Bool.eq_iff_iff]; simp [lss]; omega
  · exact (lss_no (Or.inl (by omega))).symm

set_option maxHeartbeats 400000 in
theorem max_u16 (a b : Int) (w : World) :
    Calls Try.prog 20 #[.int .u16 a, .int .u16 b] w fun e w' => e = .returned (.int .u16 (mx 65536 a b)) ∧ w = w' := by
  by_cases h : lss 65536 a b = true
  · have h1 : mx 65536 a b = b := by simp [mx, h]
    go_enter Try.func20, Try.ntmps20
    go_wp2_with (go_at_call 25; refine (less_u16 _ _ _).mono ?_; rintro e w' ⟨rfl, rfl⟩)
    go_ret
    exact ⟨ret_int h1.symm, rfl⟩
  · have h1 : mx 65536 a b = a := by simp [mx, h]
    have h0 : lss 65536 a b = false := by simpa using h
    clear h
    go_enter Try.func20, Try.ntmps20
    go_wp2_with (go_at_call 25; refine (less_u16 _ _ _).mono ?_; rintro e w' ⟨rfl, rfl⟩)
    go_ret
    exact ⟨ret_int h1.symm, rfl⟩

def ahd (m a b : Int) : Int := (b - a) % m

set_option maxHeartbeats 400000 in
theorem ahead_u32 (a b : Int) (w : World) :
    Calls Try.prog 19 #[.int .u32 a, .int .u32 b] w fun e w' => e = .returned (.int .u32 (ahd 4294967296 a b)) ∧ w = w' := by
  go_enter Try.func19, Try.ntmps19
  go_wp2
  go_ret
  exact ⟨ret_int (by (try simp only [IntKind.wrap_u16]); rfl), rfl⟩

set_option maxHeartbeats 400000 in
theorem ahead_u16 (a b : Int) (w : World) :
    Calls Try.prog 26 #[.int .u16 a, .int .u16 b] w fun e w' => e = .returned (.int .u16 (ahd 65536 a b)) ∧ w = w' := by
  go_enter Try.func26, Try.ntmps26
  go_wp2
  go_ret
  exact ⟨ret_int (by (try simp only [IntKind.wrap_u16]); rfl), rfl⟩
end Go.Proofs.Ytdmoknijpapedaa
