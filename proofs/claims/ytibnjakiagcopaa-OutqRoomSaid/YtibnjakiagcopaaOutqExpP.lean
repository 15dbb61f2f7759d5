/- The states of OutqExpires. No condition. -/
import Derived.Test.YtibnjakiagcopaaOutqCut
import Derived.Test.YtibnjakiagcopaaOutqOpen
namespace Go.Proofs.Ytibnjakiagcopaa
open Go.RowKit Go.Deep
set_option linter.unusedVariables false
set_option linter.unusedSimpArgs false

def eit (U : List Int) (j : Nat) : IT := ⟨0, true, [(j : Int)], (j : Int), U.getD j 0, 0, 0⟩
def keeps (U : List Int) (now : Int) (j : Nat) : Bool := !(eit U j).goes now
def EK (U : List Int) (now : Int) (i : Nat) : List Nat := (List.range i).filter (keeps U now)
def EQ (U : List Int) (i : Nat) : QS := ⟨(List.range i).map (eit U), (i : Int), 1000, (i : Int), [0]⟩
def wantL (U : List Int) (now : Int) (i : Nat) : List Int := (EK U now i).map (fun (j : Nat) => (j : Int))
def EY (U : List Int) (n : Nat) (K : List Nat) (i : Nat) : QS := ⟨(K.drop i).map (eit U), (n : Int), 1000, (K.length : Int), [(i : Int)]⟩
theorem EQ_put (U : List Int) (i : Nat) (h : i < U.length) : (EQ U i).put 0 true [(i : Int)] (U.getD i 0) = EQ U (i + 1) := by
  simp [QS.put, EQ, IT.new, List.range_succ, eit]
theorem EK_next (U : List Int) (now : Int) (i : Nat) : EK U now (i + 1) = EK U now i ++ (if keeps U now i = true then [i] else []) := by
  unfold EK
  rw [List.range_succ, List.filter_append]
  congr 1
  cases h : keeps U now i <;> simp [h]
theorem EK_len (U : List Int) (now : Int) (i : Nat) : (EK U now i).length ≤ i := Nat.le_trans (List.length_filter_le _ _) (by simp)
theorem EK_lt (U : List Int) (now : Int) (i : Nat) : ∀ j, j ∈ EK U now i → j < i := fun j hj => by
  have := (List.mem_filter.1 hj).1
  simpa using this
theorem keeps_iff (U : List Int) (now : Int) (i : Nat) (hU : 0 ≤ U.getD i 0) : keeps U now i = (decide (U.getD i 0 = 0) || decide (now < U.getD i 0)) := by
  unfold keeps IT.goes eit
  rw [Bool.eq_iff_iff]
  simp only [Bool.not_eq_true', decide_eq_false_iff_not, Bool.or_eq_true, decide_eq_true_eq]
  omega
/-- What goes of items none of which was begun. -/
theorem run_unbegun (now : Int) : ∀ (L : List IT) (X : XS), (∀ x, x ∈ L → x.at_ = 0) → X.run now L = { X with gone := X.gone + (((L.filter (fun x => x.goes now)).map IT.left).sum : Int) } := by
  intro L
  induction L with
  | nil => intro X _; simp [XS.run]
  | cons x L ih =>
    intro X h
    have h0 := h x (by simp)
    have hL := ih (X.step now x) (fun y hy => h y (by simp [hy]))
    show (X.step now x).run now L = _
    rw [hL]
    unfold XS.step
    cases hg : x.goes now with
    | true =>
      rw [if_pos rfl, if_neg (by omega)]
      simp only [List.filter_cons, hg, if_true, List.map_cons, List.sum_cons, XS.mk.injEq, and_true]
      omega
    | false =>
      rw [if_neg (by decide)]
      simp [List.filter_cons, hg]
theorem filter_parts {α : Type} (p : α → Bool) (L : List α) : (L.filter p).length + (L.filter (fun x => !p x)).length = L.length := by
  induction L with
  | nil => rfl
  | cons x L ih =>
    cases h : p x <;> simp [List.filter_cons, h] <;> omega
theorem left_eit (U : List Int) (j : Nat) : (eit U j).left = 1 := rfl
theorem sum_ones (L : List IT) (h : ∀ x, x ∈ L → x.left = 1) : (L.map IT.left).sum = L.length := by
  induction L with
  | nil => rfl
  | cons x L ih =>
    rw [List.map_cons, List.sum_cons, h x (by simp), ih (fun y hy => h y (by simp [hy])), List.length_cons]
    omega
theorem EQ_run (U : List Int) (now : Int) (n : Nat) : XS.zero.run now (EQ U n).L = { XS.zero with gone := (n : Int) - ((EK U now n).length : Int) } := by
  rw [run_unbegun now _ _ (by intro x hx; obtain ⟨j, _, rfl⟩ := List.mem_map.1 hx; rfl)]
  have h1 := filter_parts (keeps U now) (List.range n)
  rw [List.length_range] at h1
  have h2 : (((EQ U n).L.filter (fun x => x.goes now)).map IT.left).sum = ((List.range n).filter (fun j => !keeps U now j)).length := by
    rw [sum_ones _ (by intro x hx; obtain ⟨j, _, rfl⟩ := List.mem_map.1 (List.mem_filter.1 hx).1; rfl)]
    show (((List.range n).map (eit U)).filter _).length = _
    rw [List.filter_map, List.length_map]
    congr 1
    congr 1
    funext j
    simp [keeps, Function.comp]
  rw [h2]
  simp only [XS.mk.injEq, and_true]
  show (0 : Int) + _ = _
  unfold EK
  omega
theorem EQ_expire (U : List Int) (now : Int) (n : Nat) : (EQ U n).expire now = EY U n (EK U now n) 0 := by
  unfold QS.expire
  rw [EQ_run]
  have hl := EK_len U now n
  have e : (EQ U n).L.filter (fun x => !x.goes now) = (EK U now n).map (eit U) := by
    show ((List.range n).map (eit U)).filter _ = _
    rw [List.filter_map]
    rfl
  rw [e]
  simp only [EY, EQ, List.drop_zero, QS.mk.injEq, true_and]
  refine ⟨?_, rfl⟩
  unfold freed
  show (n : Int) - min (max ((n : Int) - _) 0) _ = _
  omega
theorem EY_next (U : List Int) (n : Nat) (K : List Nat) (i : Nat) (h : i < K.length) (hi : i ≤ 60) : (EY U n K i).L = eit U (K[i]'h) :: (K.drop (i + 1)).map (eit U) ∧ (EY U n K i).next (eit U (K[i]'h)) ((K.drop (i + 1)).map (eit U)) 1 = EY U n K (i + 1) ∧
    (EY U n K i).piece (eit U (K[i]'h)) 1 = ⟨0, 0, (i : Int), false, true, true, [((K[i]'h : Nat) : Int)]⟩ := by
  refine ⟨by show (K.drop i).map (eit U) = _; rw [List.drop_eq_getElem_cons h, List.map_cons], ?_, ?_⟩
  · have e1 : (eit U (K[i]'h)).at_ + 1 = (eit U (K[i]'h)).B.length := rfl
    have e2 : (eit U (K[i]'h)).at_ = 0 ∧ (eit U (K[i]'h)).o = true := ⟨rfl, rfl⟩
    unfold QS.next QS.ssn'
    rw [if_pos e1, if_pos e2]
    simp only [EY, QS.mk.injEq, true_and]
    show [((i : Int) + 1) % 65536] = [((i + 1 : Nat) : Int)]
    congr 1
    omega
  · simp [QS.piece, QS.num, EY, eit]
theorem EY_wait (U : List Int) (n : Nat) (K : List Nat) (i : Nat) : (EY U n K i).wait = K.length - i := by
  unfold QS.wait
  rw [sum_ones _ (by intro x hx; obtain ⟨j, _, rfl⟩ := List.mem_map.1 hx; rfl)]
  simp [EY]
theorem EQ_ok (U : List Int) (hU : bytes U) (hl : U.length ≤ 60) : ∀ i, i ≤ U.length → (EQ U i).ok i := by
  intro i
  induction i with
  | zero => intro _; exact newQ_ok 1 1000 (by omega) (by omega) 0
  | succ i ih =>
    intro h
    have hu : 0 ≤ U.getD i 0 ∧ U.getD i 0 < 256 := by
      have e : U.getD i 0 = U[i] := by simp [show i < U.length by omega]
      rw [e]
      exact hU _ (List.getElem_mem _)
    rw [← EQ_put U i (by omega)]
    exact QS.put_ok (ih (by omega)) 0 true [(i : Int)] _ (by simp [EQ]) (by intro x hx; simp at hx; omega) (Nat.le_refl _) (by simp [EQ]; omega) (by omega) (by omega)
theorem EY_ok (U : List Int) (now : Int) (hU : bytes U) (hl : U.length ≤ 60) : ∀ i, i ≤ (EK U now U.length).length → (EY U U.length (EK U now U.length) i).ok U.length := by
  intro i
  induction i with
  | zero => intro _; rw [← EQ_expire]; exact QS.expire_ok (EQ_ok U hU hl _ (Nat.le_refl _)) now
  | succ i ih =>
    intro h
    have hk := EK_len U now U.length
    obtain ⟨h1, h2, _⟩ := EY_next U U.length (EK U now U.length) i (by omega) (by omega)
    rw [← h2]
    exact QS.next_ok (ih (by omega)) h1 1 (by rw [left_eit]; exact Nat.le_refl _)
end Go.Proofs.Ytibnjakiagcopaa
