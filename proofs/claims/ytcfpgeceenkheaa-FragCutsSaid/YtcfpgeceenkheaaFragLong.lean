/- What a statement of chapter 17 calls long. No condition. -/
import Derived.Test.YtcfpgeceenkheaaFragPlain
namespace Go.Proofs.Ytcfpgeceenkheaa
open Go.RowKit Go.Deep
set_option linter.unusedVariables false
set_option linter.unusedSimpArgs false

/-- How long a statement finds it. -/
def isLong (n : Nat) (most : Int) : Prop := (65536 < n ∧ n ≤ 1048576) ∨ (0 < most ∧ 2000 < n / most.toNat)
instance (n : Nat) (most : Int) : Decidable (isLong n most) := by unfold isLong; infer_instance
set_option maxRecDepth 100000 in
set_option maxHeartbeats 2000000 in
theorem long17 (s : Int) (o : Bool) (a : Option Addr) (n cap : Nat) (most : Int) (w : World) (hn : n ≤ 9223372036854775807) (hm : -9223372036854775808 ≤ most ∧ most ≤ 9223372036854775807) :
    Calls Try.prog 10 #[.agg #[.int .u16 s, .bool o, .slice a n cap], .int .i64 most] w fun e w' => e = .returned (.bool (decide (isLong n most))) ∧ turned w w' [] := by
  by_cases hA : 65536 < n ∧ n ≤ 1048576
  · have hd : decide (isLong n most) = true := decide_eq_true (.inl hA)
    rw [hd]
    have a1 : (65536 : Int) < (n : Int) := by omega
    have a2 : (n : Int) ≤ 1048576 := by omega
    go_enter Try.func10, Try.ntmps10
    go_wp2
    go_ret
    exact ⟨rfl, turned_alloc (turned_refl w []) _⟩
  by_cases hB : 0 < most
  · obtain ⟨p, rfl⟩ : ∃ p : Nat, most = (p : Int) := ⟨most.toNat, by omega⟩
    have hd : decide (isLong n (p : Int)) = decide (2000 < n / p) := by
      rw [Bool.eq_iff_iff, decide_eq_true_eq, decide_eq_true_eq]
      unfold isLong
      rw [Int.toNat_natCast]
      exact ⟨fun h => h.elim (fun h => absurd h hA) (fun h => h.2), fun h => .inr ⟨hB, h⟩⟩
    rw [hd]
    have q0 : ¬ (p : Int) = 0 := by omega
    have hle : n / p ≤ n := Nat.div_le_self _ _
    have hdv : (n : Int) / (p : Int) = ((n / p : Nat) : Int) := (Int.natCast_ediv n p).symm
    obtain ⟨d, hd9⟩ : ∃ d, n / p = d := ⟨_, rfl⟩
    rw [hd9] at hle hdv ⊢
    have hwr : wrap64 ((n : Int) / (p : Int)) = (d : Int) := by rw [hdv]; exact IntWalk.wrap64_in _ (by omega)
    have hfin : decide ((2000 : Int) < (d : Int)) = decide (2000 < d) := by rw [Bool.eq_iff_iff, decide_eq_true_eq, decide_eq_true_eq]; omega
    clear hd hdv hd9
    by_cases h1 : 65536 < n
    · have a1 : (65536 : Int) < (n : Int) := by omega
      have a2 : decide ((n : Int) ≤ 1048576) = false := decide_eq_false (by omega)
      have a3 : (1048576 : Int) < (n : Int) := by omega
      go_enter Try.func10, Try.ntmps10
      go_wp2
      go_ret
      exact ⟨rfl, turned_alloc (turned_refl w []) _⟩
    · have a1 : (n : Int) ≤ 65536 := by omega
      go_enter Try.func10, Try.ntmps10
      go_wp2
      go_ret
      exact ⟨rfl, turned_alloc (turned_refl w []) _⟩
  · have hd : decide (isLong n most) = false := decide_eq_false fun h => h.elim hA (fun h => hB h.1)
    rw [hd]
    by_cases h1 : 65536 < n
    · have a1 : (65536 : Int) < (n : Int) := by omega
      have a2 : decide ((n : Int) ≤ 1048576) = false := decide_eq_false (by omega)
      have a3 : (1048576 : Int) < (n : Int) := by omega
      go_enter Try.func10, Try.ntmps10
      go_wp2
      go_ret
      exact ⟨rfl, turned_alloc (turned_refl w []) _⟩
    · have a1 : (n : Int) ≤ 65536 := by omega
      go_enter Try.func10, Try.ntmps10
      go_wp2
      go_ret
      exact ⟨rfl, turned_alloc (turned_refl w []) _⟩
end Go.Proofs.Ytcfpgeceenkheaa
