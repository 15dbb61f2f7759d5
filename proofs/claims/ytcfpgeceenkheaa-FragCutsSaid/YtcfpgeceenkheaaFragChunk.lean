/- slices.Chunk at bytes: what it yields, one after the other. Conditions: the bytes lie in memory; the size of a piece is 1 at least. -/
import Derived.RangeFuncNested
import Derived.RangeFuncBox
import Derived.RangeFuncBound
import Derived.RangeFuncCalls
import Derived.RangeFuncLeaves
import Derived.Shelf.Abstract
import Derived.OwnWalkIn
import Derived.TacticsInMore
import Derived.LoopNIn
import Derived.LoopIn
import Derived.Shelf.RegionOpen
import Derived.Sort.QuietIn
import Derived.Test.YtcfpgeceenkheaaFragFns
namespace Go.Proofs.Ytcfpgeceenkheaa
open Go.RowKit Go.Shelf
set_option linter.unusedVariables false
set_option linter.unusedSimpArgs false
attribute [local go_sem] Oper.semAt_some

/-- What lies below n₀ stays, but for one block. -/
structure Beside (c n₀ : Nat) (w w' : World) : Prop where
  size : w.heap.size ≤ w'.heap.size
  block : ∀ k, k < n₀ → k ≠ c → w'.heap[k]? = w.heap[k]?
theorem Beside.refl (c n₀ : Nat) (w : World) : Beside c n₀ w w := ⟨Nat.le_refl _, fun _ _ _ => rfl⟩
theorem Beside.trans {c n₀ : Nat} {x y z : World} (h : Beside c n₀ x y) (k : Beside c n₀ y z) : Beside c n₀ x z := ⟨Nat.le_trans h.size k.size, fun i hi hc => (k.block i hi hc).trans (h.block i hi hc)⟩
theorem Beside.cell {c n₀ : Nat} {w w' : World} (h : Beside c n₀ w w') {p : Addr} (hp : p.block < n₀) (hc : p.block ≠ c) : w'.cell? p = w.cell? p := World.cell?_of_block (h.block _ hp hc)
theorem Beside.below {c n₀ : Nat} {w w' : World} (h : Below w.heap.size w w') (hn : n₀ ≤ w.heap.size) : Beside c n₀ w w' := ⟨h.size, fun k hk _ => h.block k (by omega)⟩
theorem beside_put {c n₀ : Nat} {w : World} (hn : n₀ ≤ w.heap.size) (W : World) (l : Nat) (o o' : Obj) (hl : w.heap.size ≤ l) (h : W.heap[l]? = some o) (h1 : o.isCells = false) (h2 : o.isWalk = false) : Beside c n₀ W (W.putObj l o') :=
  have b := belowK_b hn W l o o' hl h h1 h2
  ⟨b.size, fun k hk _ => b.block k hk⟩

/-- The first k pieces, by their numbers. -/
theorem range_snoc (k : Nat) : List.range (k + 1) = List.range k ++ [k] := List.range_succ
/-- How many bytes the piece number k has. -/
def pieceLen (len most k : Nat) : Nat := min most (len - k * most)
def pieceV (b off len most : Nat) (k : Nat) : Value := .slice (some ⟨b, off + k * most, none⟩) (pieceLen len most k) (pieceLen len most k)

set_option maxRecDepth 100000 in
set_option maxHeartbeats 2000000 in
theorem chunk1_in (n : Nat) (hn : 1 ≤ n) (l Bs c₀ n₀ b off len cap most q : Nat) (hlen : len ≤ 4000000) (hcap : len ≤ cap) (hcap2 : cap ≤ 9223372036854775807) (hm : 1 ≤ most) (hm2 : most ≤ 9223372036854775807) (hb : b < n₀) (hq1 : len ≤ q * most) (hq2 : ∀ k, k < q → k * most < len) (J Jx : List Nat → World → Prop)
    (hY : ∀ pre x W, J pre W → pre.length < q → YieldAt Fence.wide (n - 1) Try.prog l #[pieceV b off len most x] W fun e W' =>
      (e = .returned (.bool true) ∧ J (pre ++ [x]) W' ∧ Beside c₀ n₀ W W') ∨ (e = .returned (.bool false) ∧ Jx (pre ++ [x]) W'))
    (hJd : ∀ pre W m, J pre W → J pre (W.drewN m)) (W : World) (hBs0 : Bs + 1 < n₀) (hc0 : Bs ≠ c₀) (hc1 : Bs + 1 ≠ c₀) (hBs : W.cell? ⟨Bs, 0, none⟩ = some (.slice (some ⟨b, off, none⟩) len cap)) (hBn : W.cell? ⟨Bs + 1, 0, none⟩ = some (.int .i64 (most : Int))) (h0 : J [] W) :
    CallsIn Fence.wide n Try.prog 28 #[.func (.yield l) #[] #[], .pointer (some ⟨Bs, 0, none⟩), .pointer (some ⟨Bs + 1, 0, none⟩)] W fun e W' => (∃ v, e = .returned v) ∧
      ((∃ ys, ys = List.range q ∧ J ys W') ∨ (∃ pre, (∃ k, k ≤ q ∧ pre = List.range k) ∧ Jx pre W')) := by
  refine callsIn_of_wp Try.func28 rfl trivial ?_ rfl
  simp only [Try.ntmps28, List.size_toArray, List.length_cons, List.length_nil, Nat.reduceAdd, Nat.reduceSub, Array.replicate_succ, Array.replicate_zero, List.push_toArray, List.append_toArray, List.nil_append, List.cons_append]
  gi_wp2
  gi_loopw [4] (fun i wr => ∃ k : Nat, k ≤ q ∧ i = .int .i64 ((k * most : Nat) : Int) ∧ J (List.range k) wr ∧ Beside c₀ n₀ W wr)
    (fun i _ => q * most + most - (intOf i).toNat)
  case atStart => exact ⟨0, Nat.zero_le _, by simp, h0, Beside.refl _ _ _⟩
  case round =>
    obtain ⟨k, hk, rfl, hJs, hnx⟩ := hrel
    have c1 := (hnx.cell (p := ⟨Bs, 0, none⟩) (by show Bs < n₀; omega) hc0).trans hBs
    have c2 := (hnx.cell (p := ⟨Bs + 1, 0, none⟩) (by show Bs + 1 < n₀; omega) hc1).trans hBn
    by_cases hlt : k * most < len
    · have hkq : k < q := by
        rcases Nat.lt_or_ge k q with h | h
        · exact h
        · have : q * most ≤ k * most := Nat.mul_le_mul_right _ h
          omega
      have hmx : Try.prog.follows .mixedOrders = true := by kernel_rfl
      have hpl : pieceLen len most k = min most (len - k * most) := rfl
      have hnext : ((k + 1) * most : Nat) = k * most + most := by rw [Nat.add_mul, Nat.one_mul]
      have hqm : k * most + most ≤ q * most := by rw [← hnext]; exact Nat.mul_le_mul_right _ hkq
      have hov : k * most + most ≤ 9223372036854775807 := by
        cases k with
        | zero => omega
        | succ k =>
          have : most ≤ (k + 1) * most := Nat.le_mul_of_pos_left _ (by omega)
          omega
      obtain ⟨s, hs⟩ : ∃ s, k * most = s := ⟨_, rfl⟩
      rw [hs] at hpl hnext hqm hlt hov ⊢
      by_cases hle : most ≤ len - s
      · have e1 : pieceLen len most k = most := by rw [hpl]; exact Nat.min_eq_left hle
        clear hpl
        have hi1 : (most : Int) ≤ (len : Int) - (s : Int) := by omega
        gi_wp2
        gi_quiet (fail)
        obtain ⟨fn, tmps, assign, body, hy, hR⟩ := hY _ k (wr.drewN nq) (hJd _ _ _ hJs) (by rw [List.length_range]; exact hkq)
        unfold pieceV at hy
        rw [e1, hs] at hy
        have hnx' : Beside c₀ n₀ W (wr.drewN nq) := hnx.trans ⟨Nat.le_refl _, fun _ _ _ => rfl⟩
        gi_wp2
        refine hR.mono ?_
        rintro e W3 (⟨rfl, hJ3, hk3⟩ | ⟨rfl, hJx3⟩)
        · have c3 := (((hnx'.trans hk3)).cell (p := ⟨Bs, 0, none⟩) (by show Bs < n₀; omega) hc0).trans hBs
          have c4 := (((hnx'.trans hk3)).cell (p := ⟨Bs + 1, 0, none⟩) (by show Bs + 1 < n₀; omega) hc1).trans hBn
          gi_wp2
          go_roundw
          case rel => exact ⟨k + 1, by omega, by rw [hnext]; go_num, by rw [range_snoc]; exact hJ3, hnx'.trans hk3⟩
          case measure => simp only [intOf]; omega
        · gi_wp2
          refine bodyPost_ret (results_none rfl _ _ _) rfl ?_
          exact ⟨⟨_, rfl⟩, .inr ⟨_, ⟨k + 1, by omega, (range_snoc _).symm⟩, hJx3⟩⟩
      · have e1 : pieceLen len most k = len - s := by rw [hpl]; exact Nat.min_eq_right (by omega)
        clear hpl
        have hi1 : (len : Int) - (s : Int) < (most : Int) := by omega
        have hi2 : ((len - s : Nat) : Int) = (len : Int) - (s : Int) := by omega
        gi_wp2
        gi_quiet (fail)
        obtain ⟨fn, tmps, assign, body, hy, hR⟩ := hY _ k (wr.drewN nq) (hJd _ _ _ hJs) (by rw [List.length_range]; exact hkq)
        unfold pieceV at hy
        rw [e1, hs] at hy
        have hnx' : Beside c₀ n₀ W (wr.drewN nq) := hnx.trans ⟨Nat.le_refl _, fun _ _ _ => rfl⟩
        gi_wp2
        refine hR.mono ?_
        rintro e W3 (⟨rfl, hJ3, hk3⟩ | ⟨rfl, hJx3⟩)
        · have c3 := (((hnx'.trans hk3)).cell (p := ⟨Bs, 0, none⟩) (by show Bs < n₀; omega) hc0).trans hBs
          have c4 := (((hnx'.trans hk3)).cell (p := ⟨Bs + 1, 0, none⟩) (by show Bs + 1 < n₀; omega) hc1).trans hBn
          gi_wp2
          go_roundw
          case rel => exact ⟨k + 1, by omega, by rw [hnext]; go_num, by rw [range_snoc]; exact hJ3, hnx'.trans hk3⟩
          case measure => simp only [intOf]; omega
        · gi_wp2
          refine bodyPost_ret (results_none rfl _ _ _) rfl ?_
          exact ⟨⟨_, rfl⟩, .inr ⟨_, ⟨k + 1, by omega, (range_snoc _).symm⟩, hJx3⟩⟩
    · have hkq : k = q := by
        rcases Nat.lt_or_ge k q with h | h
        · exact absurd (hq2 k h) hlt
        · omega
      subst hkq
      generalize k * most = s at *
      gi_wp2
      go_end0
      exact ⟨⟨_, rfl⟩, .inl ⟨_, rfl, hJs⟩⟩

set_option maxHeartbeats 1000000 in
theorem chunk_any (a : Option Addr) (len cap most : Nat) (hm : 1 ≤ most) (w : World) :
    Calls Try.prog 24 #[.slice a len cap, .int .i64 (most : Int)] w fun e w' => e = .returned (.func (.func 28) #[] #[.pointer (some ⟨w.heap.size, 0, none⟩), .pointer (some ⟨w.heap.size + 1, 0, none⟩)]) ∧ w' = (w.alloc (.cells #[.slice a len cap] 23)).alloc (.cells #[.int .i64 (most : Int)] 3) := by
  have hd : decide ((most : Int) < 1) = false := decide_eq_false (by omega)
  go_enter Try.func24, Try.ntmps24
  go_wp2
  go_ret
  exact ⟨rfl, rfl⟩
theorem chunk_stops (n : Nat) (hn : 1 ≤ n) (Bs c₀ n₀ b off len cap most q : Nat) (hlen : len ≤ 4000000) (hcap : len ≤ cap) (hcap2 : cap ≤ 9223372036854775807) (hm : 1 ≤ most) (hm2 : most ≤ 9223372036854775807) (hb : b < n₀) (hq1 : len ≤ q * most) (hq2 : ∀ k, k < q → k * most < len) (w : World) (hn₀ : n₀ ≤ w.heap.size) (hBs0 : Bs + 1 < n₀) (hc0 : Bs ≠ c₀) (hc1 : Bs + 1 ≠ c₀)
    (hBs : w.cell? ⟨Bs, 0, none⟩ = some (.slice (some ⟨b, off, none⟩) len cap)) (hBn : w.cell? ⟨Bs + 1, 0, none⟩ = some (.int .i64 (most : Int))) :
    SeqStopsK Fence.wide n Try.prog 28 #[.pointer (some ⟨Bs, 0, none⟩), .pointer (some ⟨Bs + 1, 0, none⟩)] (fun k : Nat => #[pieceV b off len most k]) (Beside c₀ n₀) (fun ys => ys = List.range q) (fun pre => ∃ k, k ≤ q ∧ pre = List.range k) q w := fun l J Jx W hW hJ _ hY h0 =>
  chunk1_in n hn l Bs c₀ n₀ b off len cap most q hlen hcap hcap2 hm hm2 hb hq1 hq2 J Jx hY (fun pre W m h => hJ pre W _ none h ⟨rfl, rfl, rfl, Nat.le_refl _, fun _ _ _ => rfl⟩ (fun r e => by cases e)) W hBs0 hc0 hc1 ((hW.cell (p := ⟨Bs, 0, none⟩) (by show Bs < _; omega)).trans hBs) ((hW.cell (p := ⟨Bs + 1, 0, none⟩) (by show Bs + 1 < _; omega)).trans hBn) h0
end Go.Proofs.Ytcfpgeceenkheaa
