/- The functions of package serial and of its reference, each by the plain function that it computes. No condition beyond the numbers' own ranges. -/
import Derived.Test.YtmfnnbohbnfniaaBase
namespace Go.Proofs.Ytmfnnbohbnfniaa
open Go.RowKit
set_option linter.unusedVariables false
set_option linter.unusedSimpArgs false

/-- Does a come ahead of b, modulo m? -/
def lss (m a b : Int) : Bool := decide (1 ≤ (b - a) % m ∧ 2 * ((b - a) % m) < m)
def mx (m a b : Int) : Int := if lss m a b = true then b else a
def inn (m x base width : Int) : Bool := decide (1 ≤ (x - base) % m ∧ 1 ≤ width ∧ (x - base) % m ≤ width)

theorem lss_mk {m a b : Int} (h1 : 1 ≤ (b - a) % m) (h2 : 2 * ((b - a) % m) < m) : lss m a b = true := by simp [lss, h1, h2]
theorem lss_no {m a b : Int} (h : (b - a) % m < 1 ∨ m ≤ 2 * ((b - a) % m)) : lss m a b = false := by simp [lss]; omega
theorem inn_mk {m a b c : Int} (h1 : 1 ≤ (a - b) % m) (h2 : 1 ≤ c) (h3 : (a - b) % m ≤ c) : inn m a b c = true := by simp [inn, h1, h2, h3]
theorem inn_no {m a b c : Int} (h : (a - b) % m < 1 ∨ c < 1 ∨ c < (a - b) % m) : inn m a b c = false := by simp [inn]; omega
theorem top32 : bits BinOp.xor IntKind.u32 IntKind.u32.max 0 = 4294967295 := by decide +kernel
theorem top16 : bits BinOp.xor IntKind.u16 IntKind.u16.max 0 = 65535 := by decide +kernel

set_option maxHeartbeats 400000 in
theorem less_u32 (a b : Int) (w : World) :
    Calls Try.prog 17 #[.int .u32 a, .int .u32 b] w fun e w' => e = .returned (.bool (lss 4294967296 a b)) ∧ w = w' := by
  have ht := top32
  go_enter Try.func17, Try.ntmps17
  go_wp2
  all_goals go_ret
  all_goals refine ⟨ret_bool ?_, rfl⟩
  all_goals (try simp only [IntKind.wrap_u16, IntKind.wrap_u64] at *)
  · rw [Bool.eq_iff_iff]; simp [lss]; omega
  · exact (lss_no (Or.inl (by omega))).symm

set_option maxHeartbeats 400000 in
theorem less_tsn (a b : Int) (w : World) :
    Calls Try.prog 19 #[.int .u32 a, .int .u32 b] w fun e w' => e = .returned (.bool (lss 4294967296 a b)) ∧ w = w' := by
  have ht := top32
  go_enter Try.func19, Try.ntmps19
  go_wp2
  all_goals go_ret
  all_goals refine ⟨ret_bool ?_, rfl⟩
  all_goals (try simp only [IntKind.wrap_u16, IntKind.wrap_u64] at *)
  · rw [Bool.eq_iff_iff]; simp [lss]; omega
  · exact (lss_no (Or.inl (by omega))).symm

set_option maxHeartbeats 400000 in
theorem less_u16 (a b : Int) (w : World) :
    Calls Try.prog 20 #[.int .u16 a, .int .u16 b] w fun e w' => e = .returned (.bool (lss 65536 a b)) ∧ w = w' := by
  have ht := top16
  go_enter Try.func20, Try.ntmps20
  go_wp2
  all_goals go_ret
  all_goals refine ⟨ret_bool ?_, rfl⟩
  all_goals (try simp only [IntKind.wrap_u16, IntKind.wrap_u64] at *)
  · rw [Bool.eq_iff_iff]; simp [lss]; omega
  · exact (lss_no (Or.inl (by omega))).symm

set_option maxHeartbeats 400000 in
theorem less_ssn (a b : Int) (w : World) :
    Calls Try.prog 22 #[.int .u16 a, .int .u16 b] w fun e w' => e = .returned (.bool (lss 65536 a b)) ∧ w = w' := by
  have ht := top16
  go_enter Try.func22, Try.ntmps22
  go_wp2
  all_goals go_ret
  all_goals refine ⟨ret_bool ?_, rfl⟩
  all_goals (try simp only [IntKind.wrap_u16, IntKind.wrap_u64] at *)
  · rw [Bool.eq_iff_iff]; simp [lss]; omega
  · exact (lss_no (Or.inl (by omega))).symm

set_option maxHeartbeats 400000 in
theorem less_r32 (a b : Int) (w : World) :
    Calls Try.prog 18 #[.int .u32 a, .int .u32 b] w fun e w' => e = .returned (.bool (lss 4294967296 a b)) ∧ w = w' := by
  go_enter Try.func18, Try.ntmps18
  go_wp2
  all_goals go_ret
  all_goals refine ⟨ret_bool ?_, rfl⟩
  all_goals (try simp only [IntKind.wrap_u16, IntKind.wrap_u64] at *)
  · rw [Bool.eq_iff_iff]; simp [lss]; omega
  · exact (lss_no (Or.inl (by omega))).symm

set_option maxHeartbeats 400000 in
theorem less_r16 (a b : Int) (w : World) :
    Calls Try.prog 21 #[.int .u16 a, .int .u16 b] w fun e w' => e = .returned (.bool (lss 65536 a b)) ∧ w = w' := by
  go_enter Try.func21, Try.ntmps21
  go_wp2
  all_goals go_ret
  all_goals refine ⟨ret_bool ?_, rfl⟩
  all_goals (try simp only [IntKind.wrap_u16, IntKind.wrap_u64] at *)
  · rw [Bool.eq_iff_iff]; simp [lss]; omega
  · exact (lss_no (Or.inl (by omega))).symm

set_option maxHeartbeats 400000 in
theorem max_u32 (a b : Int) (w : World) :
    Calls Try.prog 23 #[.int .u32 a, .int .u32 b] w fun e w' => e = .returned (.int .u32 (mx 4294967296 a b)) ∧ w = w' := by
  by_cases h : lss 4294967296 a b = true
  · have h1 : mx 4294967296 a b = b := by simp [mx, h]
    go_enter Try.func23, Try.ntmps23
    go_wp2_with (go_at_call 17; refine (less_u32 _ _ _).mono ?_; rintro e w' ⟨rfl, rfl⟩)
    go_ret
    exact ⟨ret_int h1.symm, rfl⟩
  · have h1 : mx 4294967296 a b = a := by simp [mx, h]
    have h0 : lss 4294967296 a b = false := by simpa using h
    clear h
    go_enter Try.func23, Try.ntmps23
    go_wp2_with (go_at_call 17; refine (less_u32 _ _ _).mono ?_; rintro e w' ⟨rfl, rfl⟩)
    go_ret
    exact ⟨ret_int h1.symm, rfl⟩

set_option maxHeartbeats 400000 in
theorem max_tsn (a b : Int) (w : World) :
    Calls Try.prog 25 #[.int .u32 a, .int .u32 b] w fun e w' => e = .returned (.int .u32 (mx 4294967296 a b)) ∧ w = w' := by
  by_cases h : lss 4294967296 a b = true
  · have h1 : mx 4294967296 a b = b := by simp [mx, h]
    go_enter Try.func25, Try.ntmps25
    go_wp2_with (go_at_call 19; refine (less_tsn _ _ _).mono ?_; rintro e w' ⟨rfl, rfl⟩)
    go_ret
    exact ⟨ret_int h1.symm, rfl⟩
  · have h1 : mx 4294967296 a b = a := by simp [mx, h]
    have h0 : lss 4294967296 a b = false := by simpa using h
    clear h
    go_enter Try.func25, Try.ntmps25
    go_wp2_with (go_at_call 19; refine (less_tsn _ _ _).mono ?_; rintro e w' ⟨rfl, rfl⟩)
    go_ret
    exact ⟨ret_int h1.symm, rfl⟩

set_option maxHeartbeats 400000 in
theorem max_u16 (a b : Int) (w : World) :
    Calls Try.prog 26 #[.int .u16 a, .int .u16 b] w fun e w' => e = .returned (.int .u16 (mx 65536 a b)) ∧ w = w' := by
  by_cases h : lss 65536 a b = true
  · have h1 : mx 65536 a b = b := by simp [mx, h]
    go_enter Try.func26, Try.ntmps26
    go_wp2_with (go_at_call 20; refine (less_u16 _ _ _).mono ?_; rintro e w' ⟨rfl, rfl⟩)
    go_ret
    exact ⟨ret_int h1.symm, rfl⟩
  · have h1 : mx 65536 a b = a := by simp [mx, h]
    have h0 : lss 65536 a b = false := by simpa using h
    clear h
    go_enter Try.func26, Try.ntmps26
    go_wp2_with (go_at_call 20; refine (less_u16 _ _ _).mono ?_; rintro e w' ⟨rfl, rfl⟩)
    go_ret
    exact ⟨ret_int h1.symm, rfl⟩

set_option maxHeartbeats 400000 in
theorem max_ssn (a b : Int) (w : World) :
    Calls Try.prog 28 #[.int .u16 a, .int .u16 b] w fun e w' => e = .returned (.int .u16 (mx 65536 a b)) ∧ w = w' := by
  by_cases h : lss 65536 a b = true
  · have h1 : mx 65536 a b = b := by simp [mx, h]
    go_enter Try.func28, Try.ntmps28
    go_wp2_with (go_at_call 22; refine (less_ssn _ _ _).mono ?_; rintro e w' ⟨rfl, rfl⟩)
    go_ret
    exact ⟨ret_int h1.symm, rfl⟩
  · have h1 : mx 65536 a b = a := by simp [mx, h]
    have h0 : lss 65536 a b = false := by simpa using h
    clear h
    go_enter Try.func28, Try.ntmps28
    go_wp2_with (go_at_call 22; refine (less_ssn _ _ _).mono ?_; rintro e w' ⟨rfl, rfl⟩)
    go_ret
    exact ⟨ret_int h1.symm, rfl⟩

set_option maxHeartbeats 400000 in
theorem max_r32 (a b : Int) (w : World) :
    Calls Try.prog 24 #[.int .u32 a, .int .u32 b] w fun e w' => e = .returned (.int .u32 (mx 4294967296 a b)) ∧ w = w' := by
  by_cases h : lss 4294967296 a b = true
  · have h1 : mx 4294967296 a b = b := by simp [mx, h]
    go_enter Try.func24, Try.ntmps24
    go_wp2_with (go_at_call 18; refine (less_r32 _ _ _).mono ?_; rintro e w' ⟨rfl, rfl⟩)
    go_ret
    exact ⟨ret_int h1.symm, rfl⟩
  · have h1 : mx 4294967296 a b = a := by simp [mx, h]
    have h0 : lss 4294967296 a b = false := by simpa using h
    clear h
    go_enter Try.func24, Try.ntmps24
    go_wp2_with (go_at_call 18; refine (less_r32 _ _ _).mono ?_; rintro e w' ⟨rfl, rfl⟩)
    go_ret
    exact ⟨ret_int h1.symm, rfl⟩

set_option maxHeartbeats 400000 in
theorem max_r16 (a b : Int) (w : World) :
    Calls Try.prog 27 #[.int .u16 a, .int .u16 b] w fun e w' => e = .returned (.int .u16 (mx 65536 a b)) ∧ w = w' := by
  by_cases h : lss 65536 a b = true
  · have h1 : mx 65536 a b = b := by simp [mx, h]
    go_enter Try.func27, Try.ntmps27
    go_wp2_with (go_at_call 21; refine (less_r16 _ _ _).mono ?_; rintro e w' ⟨rfl, rfl⟩)
    go_ret
    exact ⟨ret_int h1.symm, rfl⟩
  · have h1 : mx 65536 a b = a := by simp [mx, h]
    have h0 : lss 65536 a b = false := by simpa using h
    clear h
    go_enter Try.func27, Try.ntmps27
    go_wp2_with (go_at_call 21; refine (less_r16 _ _ _).mono ?_; rintro e w' ⟨rfl, rfl⟩)
    go_ret
    exact ⟨ret_int h1.symm, rfl⟩

set_option maxHeartbeats 400000 in
theorem in_u32 (x b c : Int) (w : World) (hx : 0 ≤ x ∧ x < 4294967296) (hb : 0 ≤ b ∧ b < 4294967296) (hc : -9223372036854775808 ≤ c ∧ c ≤ 9223372036854775807) :
    Calls Try.prog 29 #[.int .u32 x, .int .u32 b, .int .i64 c] w fun e w' => e = .returned (.bool (inn 4294967296 x b c)) ∧ w = w' := by
  go_enter Try.func29, Try.ntmps29
  go_wp2
  all_goals go_ret
  all_goals refine ⟨ret_bool ?_, rfl⟩
  all_goals (try simp only [IntKind.wrap_u16, IntKind.wrap_u64] at *)
  all_goals (first | exact (inn_no (by omega)).symm | (rw [Bool.eq_iff_iff]; simp [inn]; omega))

set_option maxHeartbeats 400000 in
theorem in_tsn (x b c : Int) (w : World) (hx : 0 ≤ x ∧ x < 4294967296) (hb : 0 ≤ b ∧ b < 4294967296) (hc : -9223372036854775808 ≤ c ∧ c ≤ 9223372036854775807) :
    Calls Try.prog 31 #[.int .u32 x, .int .u32 b, .int .i64 c] w fun e w' => e = .returned (.bool (inn 4294967296 x b c)) ∧ w = w' := by
  go_enter Try.func31, Try.ntmps31
  go_wp2
  all_goals go_ret
  all_goals refine ⟨ret_bool ?_, rfl⟩
  all_goals (try simp only [IntKind.wrap_u16, IntKind.wrap_u64] at *)
  all_goals (first | exact (inn_no (by omega)).symm | (rw [Bool.eq_iff_iff]; simp [inn]; omega))

set_option maxHeartbeats 400000 in
theorem in_u16 (x b c : Int) (w : World) (hx : 0 ≤ x ∧ x < 65536) (hb : 0 ≤ b ∧ b < 65536) (hc : -9223372036854775808 ≤ c ∧ c ≤ 9223372036854775807) :
    Calls Try.prog 32 #[.int .u16 x, .int .u16 b, .int .i64 c] w fun e w' => e = .returned (.bool (inn 65536 x b c)) ∧ w = w' := by
  go_enter Try.func32, Try.ntmps32
  go_wp2
  all_goals go_ret
  all_goals refine ⟨ret_bool ?_, rfl⟩
  all_goals (try simp only [IntKind.wrap_u16, IntKind.wrap_u64] at *)
  all_goals (first | exact (inn_no (by omega)).symm | (rw [Bool.eq_iff_iff]; simp [inn]; omega))

set_option maxHeartbeats 400000 in
theorem in_ssn (x b c : Int) (w : World) (hx : 0 ≤ x ∧ x < 65536) (hb : 0 ≤ b ∧ b < 65536) (hc : -9223372036854775808 ≤ c ∧ c ≤ 9223372036854775807) :
    Calls Try.prog 34 #[.int .u16 x, .int .u16 b, .int .i64 c] w fun e w' => e = .returned (.bool (inn 65536 x b c)) ∧ w = w' := by
  go_enter Try.func34, Try.ntmps34
  go_wp2
  all_goals go_ret
  all_goals refine ⟨ret_bool ?_, rfl⟩
  all_goals (try simp only [IntKind.wrap_u16, IntKind.wrap_u64] at *)
  all_goals (first | exact (inn_no (by omega)).symm | (rw [Bool.eq_iff_iff]; simp [inn]; omega))

set_option maxHeartbeats 400000 in
theorem in_r32 (x b c : Int) (w : World) (hx : 0 ≤ x ∧ x < 4294967296) (hb : 0 ≤ b ∧ b < 4294967296) (hc : -9223372036854775808 ≤ c ∧ c ≤ 9223372036854775807) :
    Calls Try.prog 30 #[.int .u32 x, .int .u32 b, .int .i64 c] w fun e w' => e = .returned (.bool (inn 4294967296 x b c)) ∧ w = w' := by
  go_enter Try.func30, Try.ntmps30
  go_wp2
  all_goals go_ret
  all_goals refine ⟨ret_bool ?_, rfl⟩
  all_goals (try simp only [IntKind.wrap_u16, IntKind.wrap_u64] at *)
  all_goals (first | exact (inn_no (by omega)).symm | (rw [Bool.eq_iff_iff]; simp [inn]; omega))

set_option maxHeartbeats 400000 in
theorem in_r16 (x b c : Int) (w : World) (hx : 0 ≤ x ∧ x < 65536) (hb : 0 ≤ b ∧ b < 65536) (hc : -9223372036854775808 ≤ c ∧ c ≤ 9223372036854775807) :
    Calls Try.prog 33 #[.int .u16 x, .int .u16 b, .int .i64 c] w fun e w' => e = .returned (.bool (inn 65536 x b c)) ∧ w = w' := by
  go_enter Try.func33, Try.ntmps33
  go_wp2
  all_goals go_ret
  all_goals refine ⟨ret_bool ?_, rfl⟩
  all_goals (try simp only [IntKind.wrap_u16, IntKind.wrap_u64] at *)
  all_goals (first | exact (inn_no (by omega)).symm | (rw [Bool.eq_iff_iff]; simp [inn]; omega))

def ahd (m a b : Int) : Int := (b - a) % m

set_option maxHeartbeats 400000 in
theorem ahead_u32 (a b : Int) (w : World) :
    Calls Try.prog 10 #[.int .u32 a, .int .u32 b] w fun e w' => e = .returned (.int .u32 (ahd 4294967296 a b)) ∧ w = w' := by
  go_enter Try.func10, Try.ntmps10
  go_wp2
  go_ret
  exact ⟨ret_int (by (try simp only [IntKind.wrap_u16]); rfl), rfl⟩

set_option maxHeartbeats 400000 in
theorem ahead_u16 (a b : Int) (w : World) :
    Calls Try.prog 13 #[.int .u16 a, .int .u16 b] w fun e w' => e = .returned (.int .u16 (ahd 65536 a b)) ∧ w = w' := by
  go_enter Try.func13, Try.ntmps13
  go_wp2
  go_ret
  exact ⟨ret_int (by (try simp only [IntKind.wrap_u16]); rfl), rfl⟩
end Go.Proofs.Ytmfnnbohbnfniaa
