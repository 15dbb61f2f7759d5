/- The queue's states while messages that have room together are put, and taken piece by piece. No condition. -/
import Derived.Test.YtibnjakiagcopaaOutqWorks2
import Derived.Test.YtibnjakiagcopaaOutqOpen
namespace Go.Proofs.Ytibnjakiagcopaa
open Go.RowKit Go.Deep
set_option linter.unusedVariables false
set_option linter.unusedSimpArgs false

section
variable (σ : Nat → Int) (ω : Nat → Bool) (β : Nat → List Int)
/-- The message at a place. -/
def wit (j : Nat) : IT := ⟨σ j, ω j, β j, (j : Int), 0, 0, 0⟩
/-- How many bytes the first messages have. -/
def wtot (i : Nat) : Nat := ((List.range i).map (fun j => (β j).length)).sum
def WQ (i : Nat) : QS := ⟨(List.range i).map (wit σ ω β), (i : Int), 1048576, (wtot β i : Nat), List.replicate 16 0⟩
/-- Each stream's next number behind the first messages. -/
def WC : Nat → List Int
  | 0 => List.replicate 16 0
  | i + 1 => if ω i = true then (WC i).set (σ i).toNat (((WC i).getD (σ i).toNat 0 + 1) % 65536) else WC i
/-- The number of a message. -/
def wnum (i : Nat) : Int := if ω i = true then (WC σ ω i).getD (σ i).toNat 0 else 0
def wrest (N i : Nat) : List IT := ((List.range N).drop i).map (wit σ ω β)
/-- The front, of which a bytes were taken. -/
def wfr (i a : Nat) : IT := if a = 0 then wit σ ω β i else { wit σ ω β i with at_ := a, ssn := wnum σ ω i }
/-- The queue behind the first i messages and a bytes of the next one. -/
def WS (N i a : Nat) : QS := ⟨wfr σ ω β i a :: wrest σ ω β N (i + 1), (N : Int), 1048576, (wtot β N : Nat), if a = 0 then WC σ ω i else WC σ ω (i + 1)⟩
def WE (N i : Nat) : QS := ⟨wrest σ ω β N i, (N : Int), 1048576, (wtot β N : Nat), WC σ ω i⟩
variable {σ ω β}
theorem wtot_succ (i : Nat) : wtot β (i + 1) = wtot β i + (β i).length := by
  unfold wtot
  rw [List.range_succ, List.map_append, List.sum_append]
  simp
theorem wtot_le {N i : Nat} (h : i ≤ N) : wtot β i ≤ wtot β N := by
  induction N with
  | zero => have : i = 0 := by omega
            subst this; exact Nat.le_refl _
  | succ N ih =>
    rcases Nat.lt_or_ge i (N + 1) with h1 | h1
    · have := ih (by omega)
      rw [wtot_succ]
      omega
    · have : i = N + 1 := by omega
      subst this; exact Nat.le_refl _
theorem wtot_bound {N : Nat} (h : ∀ j, j < N → (β j).length ≤ 1000) : wtot β N ≤ N * 1000 := by
  induction N with
  | zero => exact Nat.le_refl _
  | succ N ih =>
    have h1 := ih (fun j hj => h j (by omega))
    have h2 := h N (by omega)
    rw [wtot_succ]
    omega
theorem WQ_zero : WQ σ ω β 0 = newQ 16 1048576 := rfl
theorem WQ_put (i : Nat) : (WQ σ ω β i).put (σ i) (ω i) (β i) 0 = WQ σ ω β (i + 1) := by
  unfold QS.put WQ IT.new wit
  rw [wtot_succ, List.range_succ, List.map_append]
  simp
theorem WQ_end (N : Nat) : WQ σ ω β N = WE σ ω β N 0 := rfl
theorem WQ_wait (N : Nat) : (WQ σ ω β N).wait = wtot β N := by
  unfold QS.wait WQ wtot
  simp only [List.map_map]
  rfl
theorem wrest_cons {N i : Nat} (h : i < N) : wrest σ ω β N i = wit σ ω β i :: wrest σ ω β N (i + 1) := by
  unfold wrest
  rw [List.drop_eq_getElem_cons (by simpa using h)]
  simp
theorem wrest_end (N : Nat) : wrest σ ω β N N = [] := by
  unfold wrest
  rw [List.drop_eq_nil_of_le (by simp)]
  rfl
theorem WE_start {N i : Nat} (h : i < N) : WE σ ω β N i = WS σ ω β N i 0 := by
  unfold WE WS wfr
  rw [wrest_cons h]
  simp
theorem WS_num {N i a : Nat} : (WS σ ω β N i a).num (wfr σ ω β i a) = wnum σ ω i := by
  unfold QS.num wfr WS wnum
  by_cases ha : a = 0
  · simp only [if_pos ha, wit]
    by_cases ho : ω i = true
    · simp [ho]
    · simp [ho]
  · simp only [if_neg ha, wit]
    simp [ha, wnum]
theorem WS_ssn {N i a : Nat} : (WS σ ω β N i a).ssn' (wfr σ ω β i a) = WC σ ω (i + 1) := by
  unfold QS.ssn' wfr WS
  by_cases ha : a = 0
  · simp only [if_pos ha, wit, WC]
    by_cases ho : ω i = true
    · simp [ho]
    · simp [ho]
  · simp only [if_neg ha, wit]
    simp [ha]
theorem wfr_at (i a : Nat) : (wfr σ ω β i a).at_ = a := by
  unfold wfr
  split
  · rename_i h; rw [h]; rfl
  · rfl
theorem wfr_B (i a : Nat) : (wfr σ ω β i a).B = β i := by unfold wfr; split <;> rfl
theorem wfr_s (i a : Nat) : (wfr σ ω β i a).s = σ i := by unfold wfr; split <;> rfl
theorem wfr_o (i a : Nat) : (wfr σ ω β i a).o = ω i := by unfold wfr; split <;> rfl
theorem wfr_id (i a : Nat) : (wfr σ ω β i a).id = (i : Int) := by unfold wfr; split <;> rfl
theorem wfr_un (i a : Nat) : (wfr σ ω β i a).un = 0 := by unfold wfr; split <;> rfl
theorem wfr_left (i a : Nat) : (wfr σ ω β i a).left = (β i).length - a := by unfold IT.left; rw [wfr_B, wfr_at]
/-- A piece is taken. -/
theorem WS_next {N i a k : Nat} (hk : 1 ≤ k) (h : a + k ≤ (β i).length) : (WS σ ω β N i a).next (wfr σ ω β i a) (wrest σ ω β N (i + 1)) k = if a + k = (β i).length then WE σ ω β N (i + 1) else WS σ ω β N i (a + k) := by
  unfold QS.next
  rw [WS_ssn, WS_num, wfr_at, wfr_B]
  by_cases he : a + k = (β i).length
  · rw [if_pos he, if_pos he]
    rfl
  · rw [if_neg he, if_neg he]
    unfold WS wfr
    rw [if_neg (show ¬ a + k = 0 by omega), if_neg (show ¬ a + k = 0 by omega)]
    by_cases ha : a = 0
    · simp only [if_pos ha, wit]
    · simp only [if_neg ha, wit]
theorem WS_size {N i a : Nat} : (WS σ ω β N i a).size = (β i).length - a := by
  unfold QS.size WS
  exact wfr_left i a
theorem WC_len (i : Nat) : (WC σ ω i).length = 16 := by
  induction i with
  | zero => rfl
  | succ i ih =>
    unfold WC
    split
    · rw [List.length_set, ih]
    · exact ih
theorem WC_in (i : Nat) : ∀ x, x ∈ WC σ ω i → 0 ≤ x ∧ x < 65536 := by
  induction i with
  | zero => intro x hx; rw [WC, List.mem_replicate] at hx; omega
  | succ i ih =>
    intro x hx
    unfold WC at hx
    split at hx
    · rcases List.mem_or_eq_of_mem_set hx with hx | rfl
      · exact ih x hx
      · omega
    · exact ih x hx
end
end Go.Proofs.Ytibnjakiagcopaa
