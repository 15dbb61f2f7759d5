/- Times that came in; the rows that the laws set. No condition. -/
import Derived.Test.YtebdnciehobfaaaTimWorks
import Derived.Test.YtebdnciehobfaaaTimHeldI
namespace Go.Proofs.Ytebdnciehobfaaa
open Go.RowKit Go.ChangeShapes Go.WideShapes Go.Deep
set_option linter.unusedVariables false
set_option linter.unusedSimpArgs false
set_option linter.unusedSectionVars false

/-- Times that came in. -/
def Times (W : World) (v : Value) (x : Nat × (Nat → Int)) : Prop :=
  IsSl W v x.1 1 (fun i _ => .int .i64 (x.2 i)) ∧ ∀ i, i < x.1 → -9223372036854775808 ≤ x.2 i ∧ x.2 i ≤ 9223372036854775807
theorem opened40 {H : Type} {enc : TypeId × Value → H} {W : World} {r : Reach} {base : Nat} {v : Value} {d : DataW H} {p : List MemPlace}
    (hv : Value.okWide Try.prog W r base 40 v) (h : DataW.Trod enc Try.prog W 0 (fun _ => true) true 40 v d p) : ∃ x, Times W v x := by
  obtain ⟨n, V, hsl, hV⟩ := openSl1 Try.underlying40 (by kernel_rfl) hv h
  have e1 : ∀ i, i < n → ∃ c : Int, V i 0 = .int .i64 c ∧ (Lit.int .i64 c).wf = true := fun i hi => by
    obtain ⟨m, y, hy⟩ := hV i hi
    exact trod_int1 Try.underlying2 hy
  obtain ⟨ts, hts⟩ := choose_lt e1
  refine ⟨(n, ts), isSl_congr hsl fun i j hi hj => ?_, fun i hi => bounds_i64 (hts i hi).2⟩
  have : j = 0 := by omega
  subst this
  rw [(hts i hi).1]
theorem below_works {W w w' : World} (h : Below W.heap.size W w) (k : Below w.heap.size w w') : Below W.heap.size W w' := h.trans (k.mono h.size)
theorem wf_i64 {x : Int} (h : -9223372036854775808 ≤ x ∧ x ≤ 9223372036854775807) : (Lit.int .i64 x).wf = true := by
  simp [Lit.wf, IntKind.min, IntKind.max, IntKind.signed, IntKind.bits]; omega

section
variable {α : Type} [DecidableEq α]
theorem drp_none {k : α} {L : List (α × Int)} (h : ∀ x, x ∈ L → x.1 ≠ k) : drp k L = L := List.filter_eq_self.2 fun e he => decide_eq_true (h e he)
theorem mem_drp {k : α} {L : List (α × Int)} {x : α × Int} : x ∈ drp k L ↔ x ∈ L ∧ x.1 ≠ k := by simp [drp]
theorem drp_perm {L : List (α × Int)} (hp : L.Pairwise (fun a b => a.1 ≠ b.1)) {x : α × Int} (hx : x ∈ L) : L.Perm (x :: drp x.1 L) := by
  obtain ⟨l1, l2, rfl⟩ := List.append_of_mem hx
  obtain ⟨h1, h2, h3⟩ := List.pairwise_append.1 hp
  obtain ⟨h4, h5⟩ := List.pairwise_cons.1 h2
  have e1 : drp x.1 l1 = l1 := drp_none fun y hy => h3 y hy x (by simp)
  have e2 : drp x.1 l2 = l2 := drp_none fun y hy => (h4 y hy).symm
  have : drp x.1 (l1 ++ x :: l2) = l1 ++ l2 := by
    unfold drp at *
    rw [List.filter_append, List.filter_cons, if_neg (by simp), e1, e2]
  rw [this]
  exact List.perm_middle
theorem drp_length {L : List (α × Int)} (hp : L.Pairwise (fun a b => a.1 ≠ b.1)) {x : α × Int} (hx : x ∈ L) : (drp x.1 L).length + 1 = L.length := (drp_perm hp hx).length_eq.symm
theorem drp_drp (k : α) (L : List (α × Int)) : drp k (drp k L) = drp k L := drp_none fun x hx => (mem_drp.1 hx).2
theorem best_none {L : List (α × Int)} (h : best L = none) : L = [] := by
  cases L with
  | nil => rfl
  | cons x r => cases h
theorem nil_of_length {L : List (α × Int)} (h : L.length = 0) : L = [] := List.eq_nil_of_length_eq_zero h
end

/-- What the laws set: key i at f i, for all i below n. -/
def rows (f : Nat → Int) (n : Nat) : List (Int × Int) := (List.range n).map fun j : Nat => ((j : Int), f j)
theorem rows_succ (f : Nat → Int) (n : Nat) : rows f (n + 1) = rows f n ++ [((n : Int), f n)] := by simp [rows, List.range_succ]
theorem mem_rows {f : Nat → Int} {n : Nat} {x : Int × Int} : x ∈ rows f n ↔ ∃ j, j < n ∧ x = ((j : Int), f j) := by
  simp only [rows, List.mem_map, List.mem_range]
  exact ⟨fun ⟨j, h, e⟩ => ⟨j, h, e.symm⟩, fun ⟨j, h, e⟩ => ⟨j, h, e.symm⟩⟩
theorem rows_length (f : Nat → Int) (n : Nat) : (rows f n).length = n := by simp [rows]
theorem rows_step (f : Nat → Int) (n : Nat) : drp (n : Int) (rows f n) ++ [((n : Int), f n)] = rows f (n + 1) := by
  rw [rows_succ, drp_none fun x hx => by
    obtain ⟨j, hj, rfl⟩ := mem_rows.1 hx
    show (j : Int) ≠ n
    omega]
end Go.Proofs.Ytebdnciehobfaaa
