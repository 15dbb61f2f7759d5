/- The states of OutqCut. No condition. -/
import Derived.Test.YtibnjakiagcopaaOutqWorks2
namespace Go.Proofs.Ytibnjakiagcopaa
open Go.RowKit Go.Deep
set_option linter.unusedVariables false
set_option linter.unusedSimpArgs false

def x0 (n : Nat) (un : Int) (a : Nat) : IT := ⟨0, true, List.replicate n 0, 0, un, a, 0⟩
def x1 : IT := ⟨0, true, [7], 1, 0, 0, 0⟩
def C2 (n : Nat) (un : Int) : QS := ⟨[x0 n un 0], 1, 1000, (n : Int), [0]⟩
def C3 (n : Nat) (un : Int) : QS := ⟨[x0 n un 0, x1], 2, 1000, (n : Int) + 1, [0]⟩
def C4 (n : Nat) (un : Int) (k : Nat) : QS := ⟨[x0 n un k, x1], 2, 1000, (n : Int) + 1, [1]⟩
def C5 (k : Nat) : QS := ⟨[x1], 2, 1000, (k : Int) + 2, [1]⟩
def C6 (k : Nat) : QS := ⟨[], 2, 1000, (k : Int) + 2, [2]⟩
def C7 (n : Nat) : QS := ⟨[x1], 2, 1000, (n : Int) + 1, [1]⟩
theorem zeros (n : Nat) : bytes (List.replicate n (0 : Int)) := by intro x hx; rw [List.eq_of_mem_replicate hx]; omega
theorem c2 (n : Nat) (un : Int) : (newQ 1 1000).put 0 true (List.replicate n 0) un = C2 n un := by simp [QS.put, newQ, IT.new, C2, x0]
theorem c3 (n : Nat) (un : Int) : (C2 n un).put 0 true [7] 0 = C3 n un := by simp [QS.put, C2, C3, IT.new, x0, x1]
theorem c4 (n : Nat) (un : Int) (k : Nat) (hk : k < n) : (C3 n un).next (x0 n un 0) [x1] k = C4 n un k := by
  simp [QS.next, QS.num, QS.ssn', C3, C4, x0]
  omega
theorem goes_x1 (now : Int) : x1.goes now = false := by simp [IT.goes, x1]
theorem c5 (n : Nat) (un : Int) (k : Nat) (now : Int) (hk : k < n) (hk1 : 1 ≤ k) (h : 1 ≤ un ∧ un ≤ now) : XS.zero.run now (C4 n un k).L = ⟨(n : Int) - k - 1, 0, 0, false, true, [0], 0⟩ ∧ (C4 n un k).expire now = C5 k := by
  have hg : (x0 n un k).goes now = true := by simp [IT.goes, x0, h]
  have hl : (x0 n un k).left = n - k := by simp [IT.left, x0]
  have hr : XS.zero.run now (C4 n un k).L = ⟨(n : Int) - k - 1, 0, 0, false, true, [0], 0⟩ := by
    show XS.step now (XS.step now XS.zero (x0 n un k)) x1 = _
    rw [XS.step_no (goes_x1 now)]
    unfold XS.step
    rw [if_pos hg, if_pos (by show 0 < k; omega), hl]
    simp only [x0, XS.zero, XS.mk.injEq, Bool.not_true, and_true, true_and]
    omega
  refine ⟨hr, ?_⟩
  unfold QS.expire
  rw [hr]
  simp only [C4, C5, List.filter_cons, hg, goes_x1, Bool.not_true, Bool.not_false, List.filter_nil, QS.mk.injEq, true_and, and_true, freed, Bool.false_eq_true, if_true, if_false]
  omega
theorem freed0 (u : Int) (h : 0 ≤ u) : freed u 0 = u := by unfold freed; omega
theorem c5n (n : Nat) (un : Int) (k : Nat) (now : Int) (h : ¬ (1 ≤ un ∧ un ≤ now)) : XS.zero.run now (C4 n un k).L = XS.zero ∧ (C4 n un k).expire now = C4 n un k := by
  have hg : (x0 n un k).goes now = false := by simp only [IT.goes, x0]; exact decide_eq_false h
  have hr : XS.zero.run now (C4 n un k).L = XS.zero := XS.run_no (by intro x hx; simp [C4] at hx; rcases hx with rfl | rfl; exact hg; exact goes_x1 now)
  refine ⟨hr, ?_⟩
  unfold QS.expire
  rw [hr, show XS.zero.gone = 0 from rfl, freed0 _ (by show (0 : Int) ≤ (n : Int) + 1; omega)]
  simp [C4, hg, goes_x1]
theorem c5a (k : Nat) (now : Int) : XS.zero.run now (C5 k).L = XS.zero ∧ (C5 k).expire now = C5 k := by
  have hr : XS.zero.run now (C5 k).L = XS.zero := XS.run_no (by intro x hx; simp [C5] at hx; rw [hx]; exact goes_x1 now)
  refine ⟨hr, ?_⟩
  unfold QS.expire
  rw [hr, show XS.zero.gone = 0 from rfl, freed0 _ (by show (0 : Int) ≤ (k : Int) + 2; omega)]
  simp [C5, goes_x1]
theorem c6 (k : Nat) : (C5 k).next x1 [] 1 = C6 k := rfl
theorem c7 (n : Nat) (un : Int) (k : Nat) (hk : k < n) (h1 : 1 ≤ k) : (C4 n un k).next (x0 n un k) [x1] (n - k) = C7 n := by
  have h2 : ¬ k = 0 := by omega
  simp [QS.next, QS.num, QS.ssn', C4, C7, x0, h2]
  omega
theorem okc2 (n : Nat) (un : Int) (h : 2 ≤ n ∧ n ≤ 301) (hu : 0 ≤ un ∧ un ≤ 255) : (C2 n un).ok 1 :=
  c2 n un ▸ QS.put_ok (newQ_ok 1 1000 (by omega) (by omega) 0) 0 true (List.replicate n 0) un (by decide) (zeros n) (by simp; omega) (by simp [newQ]; omega) (by omega) (by omega)
theorem okc3 (n : Nat) (un : Int) (h : 2 ≤ n ∧ n ≤ 301) (hu : 0 ≤ un ∧ un ≤ 255) : (C3 n un).ok 2 :=
  c3 n un ▸ QS.put_ok (okc2 n un h hu) 0 true [7] 0 (by simp [C2]) (by intro x hx; simp at hx; omega) (by decide) (by simp [C2]; omega) (by decide) (by omega)
theorem okc4 (n : Nat) (un : Int) (k : Nat) (h : 2 ≤ n ∧ n ≤ 301) (hu : 0 ≤ un ∧ un ≤ 255) (hk : k < n) : (C4 n un k).ok 2 :=
  c4 n un k hk ▸ QS.next_ok (okc3 n un h hu) rfl k (by simp [IT.left, x0]; omega)
theorem okc5 (n : Nat) (un : Int) (k : Nat) (now : Int) (hn : 2 ≤ n ∧ n ≤ 301) (hu : 0 ≤ un ∧ un ≤ 255) (hk : k < n) (hk1 : 1 ≤ k) (h : 1 ≤ un ∧ un ≤ now) : (C5 k).ok 2 :=
  (c5 n un k now hk hk1 h).2 ▸ QS.expire_ok (okc4 n un k hn hu hk) now
theorem make_u8 (n : Nat) (h : n ≤ 1000000) (w : World) : (Instr.makeSlice 29 (.int .i64 (n : Int)) (.int .i64 (n : Int))).run Try.prog w = .ok (.slice (some ⟨w.heap.size, 0, none⟩) n n) (w.alloc (.cells (madeCells #[.int .u8 0] n) 5)) := by
  obtain ⟨i0, hi0, hz0, hz1, hz2⟩ := info_parts infoB
  have := run_makeSlice (P := Try.prog) w 29 5 i0 (.int .u8 0) Try.underlying29 hi0 hz0 .i64 .i64 (n : Int) (n : Int) (by omega) (Int.le_refl _) (by rw [hz1]; omega) (by rw [hz2]; omega) (by omega)
  simpa [hz1, Value.cells] using this
theorem made_flat (n : Nat) : madeCells #[.int .u8 0] n = (flat cB (List.replicate n 0)).toArray := by
  have e : (madeCells #[.int .u8 0] n).toList = flat cB (List.replicate n 0) := by
    simp [madeCells, flat, cB, Nat.mod_one]
    rw [List.eq_replicate_iff]
    exact ⟨by simp, fun b hb => by simp at hb; exact hb.2.symm⟩
  rw [← e]
end Go.Proofs.Ytibnjakiagcopaa
