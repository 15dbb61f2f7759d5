/- What waits, what is used, what was taken: the plain part of OutqRoom. No condition. -/
import Derived.Test.YtibnjakiagcopaaOutqAct
namespace Go.Proofs.Ytibnjakiagcopaa
open Go.RowKit Go.Deep
set_option linter.unusedVariables false
set_option linter.unusedSimpArgs false

structure RInv (r : Int) (S : QS) (taken : Int) : Prop where
  room : S.room = r
  four : S.ssn.length = 4
  t0 : 0 ≤ taken
  used : S.used = (S.wait : Int) + taken
  tail : ∀ x, x ∈ S.L.tail → x.at_ = 0
theorem wait_cons (S : QS) (y : IT) (L : List IT) (h : S.L = y :: L) : S.wait = y.left + (L.map IT.left).sum := by unfold QS.wait; rw [h]; simp
theorem parts_sum (p : IT → Bool) (L : List IT) : ((L.filter p).map IT.left).sum + ((L.filter (fun x => !p x)).map IT.left).sum = (L.map IT.left).sum := by
  induction L with
  | nil => rfl
  | cons x L ih =>
    cases h : p x <;> simp [List.filter_cons, h] <;> omega
/-- What Expire lets go, where the front alone was begun. -/
theorem run_front (now : Int) (L : List IT) (hL : ∀ x, x ∈ L.tail → x.at_ = 0) (hk : ∀ x, x ∈ L → x.at_ < x.B.length) :
    (XS.zero.run now L).gone + ((XS.zero.run now L).B.length : Int) = (((L.filter (fun x => x.goes now)).map IT.left).sum : Int) ∧ 0 ≤ (XS.zero.run now L).gone := by
  cases L with
  | nil => exact ⟨rfl, Int.le_refl _⟩
  | cons y T =>
    have hT : ∀ x, x ∈ T → x.at_ = 0 := hL
    have e : XS.zero.run now (y :: T) = { XS.step now XS.zero y with gone := (XS.step now XS.zero y).gone + (((T.filter (fun x => x.goes now)).map IT.left).sum : Int) } := run_unbegun now T (XS.step now XS.zero y) hT
    rw [e]
    have hy := hk y (by simp)
    have hl : 1 ≤ y.left := by unfold IT.left; omega
    unfold XS.step
    cases hg : y.goes now with
    | false =>
      rw [if_neg (by decide)]
      simp only [List.filter_cons, hg, XS.zero, List.length_nil]
      simp
    | true =>
      rw [if_pos rfl]
      by_cases ha : 0 < y.at_
      · rw [if_pos ha]
        simp only [List.filter_cons, hg, XS.zero, if_true, List.map_cons, List.sum_cons, List.length_cons, List.length_nil]
        omega
      · rw [if_neg ha]
        simp only [List.filter_cons, hg, XS.zero, if_true, List.map_cons, List.sum_cons, List.length_nil]
        omega
theorem tail_filter (p : IT → Bool) (L : List IT) (h : ∀ x, x ∈ L.tail → x.at_ = 0) : ∀ x, x ∈ (L.filter p).tail → x.at_ = 0 := by
  cases L with
  | nil => intro x hx; cases hx
  | cons y T =>
    have hT : ∀ x, x ∈ T → x.at_ = 0 := h
    intro x hx
    rw [List.filter_cons] at hx
    split at hx
    · exact hT x (List.mem_filter.1 hx).1
    · exact hT x (List.mem_filter.1 (List.mem_of_mem_tail hx)).1
/-- The thing done, as the law has it done. -/
def asDone (x : OD) (taken : Int) : OD := if x.k = 3 then { x with n := taken } else x
def after (x : OD) (taken : Int) : Int := if x.k = 3 then 0 else taken
theorem asDone_k (x : OD) (t : Int) : (asDone x t).k = x.k := by unfold asDone; split <;> rfl
theorem room_step {r : Int} {S : QS} {taken : Int} {n : Nat} (h : RInv r S taken) (hk : S.ok n) (x : OD) (B : List Int) : RInv r (S.act (asDone x taken) B).1 (after x taken + ((S.act (asDone x taken) B).2.d.B.length : Int)) := by
  have hw := h.used
  have h0 := h.t0
  unfold QS.act after asDone
  by_cases k0 : x.k = 0
  · have k3 : ¬ x.k = 3 := by omega
    simp only [if_neg k3, if_pos k0]
    by_cases he : S.err x.m.s B.length x.un = 0
    · rw [if_pos he]
      have ew : (S.put x.m.s x.m.o B x.un).wait = S.wait + B.length := by simp [QS.wait, QS.put, IT.new, IT.left]
      refine ⟨h.room, h.four, by show 0 ≤ taken + ((0 : Nat) : Int); omega, ?_, ?_⟩
      · rw [ew]
        show S.used + (B.length : Int) = ((S.wait + B.length : Nat) : Int) + (taken + ((0 : Nat) : Int))
        omega
      · intro y hy
        show y.at_ = 0
        have hy' : y ∈ (S.L ++ [IT.new S x.m.s x.m.o B x.un]).tail := hy
        cases hL : S.L with
        | nil => rw [hL] at hy'; simp at hy'
        | cons z T =>
          rw [hL] at hy'
          simp only [List.cons_append, List.tail_cons, List.mem_append, List.mem_singleton] at hy'
          rcases hy' with hy' | rfl
          · exact h.tail y (by rw [hL]; exact hy')
          · rfl
    · rw [if_neg he]
      exact ⟨h.room, h.four, by show 0 ≤ taken + ((0 : Nat) : Int); omega, by show S.used = (S.wait : Int) + (taken + ((0 : Nat) : Int)); omega, h.tail⟩
  by_cases k1 : x.k = 1
  · have k3 : ¬ x.k = 3 := by omega
    simp only [if_neg k3, if_neg k0, if_pos k1]
    have same : RInv r S (taken + ((0 : Nat) : Int)) := ⟨h.room, h.four, by omega, by omega, h.tail⟩
    cases hL : S.L with
    | nil => exact same
    | cons y L =>
      simp only
      by_cases hn : x.n < 1
      · rw [if_pos hn]; exact same
      · rw [if_neg hn]
        obtain ⟨k, hkk⟩ : ∃ k : Nat, k = (min x.n (y.left : Int)).toNat := ⟨_, rfl⟩
        rw [← hkk]
        have hkl : k ≤ y.left := by omega
        have hy := hk.it y (by rw [hL]; simp)
        have hlen : (S.piece y k).B.length = k := by
          show ((y.B.drop y.at_).take k).length = k
          unfold IT.left at hkl
          simp
          omega
        have hws := wait_cons S y L hL
        refine ⟨h.room, ?_, by show 0 ≤ taken + ((S.piece y k).B.length : Int); omega, ?_, ?_⟩
        · show (S.ssn' y).length = 4
          rw [QS.ssn'_len]; exact h.four
        · show S.used = ((S.next y L k).wait : Int) + (taken + ((S.piece y k).B.length : Int))
          rw [hlen]
          have e : (S.next y L k).wait + k = S.wait := by
            rw [hws]
            by_cases hlast : y.at_ + k = y.B.length
            · have e1 : (S.next y L k).wait = (L.map IT.left).sum := by unfold QS.wait QS.next; simp only; rw [if_pos hlast]
              rw [e1]
              unfold IT.left
              omega
            · have e1 : (S.next y L k).wait = (y.B.length - (y.at_ + k)) + (L.map IT.left).sum := by unfold QS.wait QS.next; simp only; rw [if_neg hlast]; simp [IT.left]
              rw [e1]
              unfold IT.left at hkl ⊢
              have := hy.a1
              omega
          omega
        · show ∀ z, z ∈ (if y.at_ + k = y.B.length then L else { y with at_ := y.at_ + k, ssn := S.num y } :: L).tail → z.at_ = 0
          have hT : ∀ z, z ∈ L → z.at_ = 0 := fun z hz => h.tail z (by rw [hL]; exact hz)
          intro z hz
          split at hz
          · exact hT z (List.mem_of_mem_tail hz)
          · exact hT z hz
  by_cases k2 : x.k = 2
  · have k3 : ¬ x.k = 3 := by omega
    simp only [if_neg k3, if_neg k0, if_neg k1, if_pos k2]
    obtain ⟨g1, g2⟩ := run_front x.un S.L h.tail (fun y hy => (hk.it y hy).a1)
    have hp := parts_sum (fun y => y.goes x.un) S.L
    have hww : S.wait = (S.L.map IT.left).sum := rfl
    have hwe : (S.expire x.un).wait = ((S.L.filter (fun y => !y.goes x.un)).map IT.left).sum := rfl
    refine ⟨h.room, h.four, ?_, ?_, tail_filter _ _ h.tail⟩
    · show 0 ≤ taken + ((XS.zero.run x.un S.L).B.length : Int)
      omega
    · show freed S.used (XS.zero.run x.un S.L).gone = ((S.expire x.un).wait : Int) + (taken + ((XS.zero.run x.un S.L).B.length : Int))
      rw [hwe]
      unfold freed
      omega
  by_cases k3 : x.k = 3
  · simp only [if_pos k3, if_neg k0, if_neg k1, if_neg k2]
    refine ⟨h.room, h.four, by show (0 : Int) ≤ 0 + ((0 : Nat) : Int); omega, ?_, h.tail⟩
    show freed S.used taken = ((S.wait : Nat) : Int) + (0 + ((0 : Nat) : Int))
    unfold freed
    omega
  · simp only [if_neg k3, if_neg k0, if_neg k1, if_neg k2]
    exact ⟨h.room, h.four, by show 0 ≤ taken + ((0 : Nat) : Int); omega, by show S.used = (S.wait : Int) + (taken + ((0 : Nat) : Int)); omega, h.tail⟩
/-- A message is taken just where it has room. -/
theorem room_put {r : Int} {S : QS} {taken : Int} (h : RInv r S taken) (x : OD) (B : List Int) (hk : x.k = 0) (hu : 0 ≤ x.un) (hs : x.m.s < 4) (h1 : 0 < B.length) (h2 : (B.length : Int) ≤ r) : ((S.act (asDone x taken) B).2.e == 0) = decide (S.used + (B.length : Int) ≤ r) := by
  have k3 : ¬ x.k = 3 := by omega
  have e : (S.act (asDone x taken) B).2.e = S.err x.m.s B.length x.un := by
    unfold QS.act asDone
    rw [if_neg k3, if_pos hk]
    split
    · rename_i he; exact he.symm
    · rfl
  rw [e]
  have hr := h.room
  have hf := h.four
  unfold QS.err
  rw [if_neg (by omega), if_neg (by omega), if_neg (by omega)]
  by_cases hx : S.room - S.used < (B.length : Int)
  · rw [if_pos hx, decide_eq_false (by omega)]
    rfl
  · rw [if_neg hx, decide_eq_true (by omega)]
    rfl
end Go.Proofs.Ytibnjakiagcopaa
