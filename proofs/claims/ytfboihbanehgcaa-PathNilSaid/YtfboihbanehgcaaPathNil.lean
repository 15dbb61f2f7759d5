/- The walk of PathNil. No condition. -/
import Derived.Test.YtfboihbanehgcaaPathWorks
namespace Go.Proofs.Ytfboihbanehgcaa
open Go.RowKit Go.ChangeShapes Go.WideShapes Go.Deep
set_option linter.unusedVariables false
set_option linter.unusedSimpArgs false

def OpenedOp (v : Value) (o : OP) : Prop := v = o.val
theorem opened35 {H : Type} {enc : TypeId × Value → H} {W : World} {r : Reach} {base : Nat} {v : Value} {d : DataW H} {p : List MemPlace}
    (hv : Value.okWide Try.prog W r base 35 v) (h : DataW.Trod enc Try.prog W 0 (fun _ => true) true 35 v d p) : ∃ o, OpenedOp v o := by
  obtain ⟨l, rfl, hl, hx⟩ := openAgg 5 Try.underlying35 (by kernel_rfl) (by kernel_rfl) rfl hv h
  match l, hl with
  | [v0, v1, v2, v3, v4], _ =>
    obtain ⟨m0, y0, h0⟩ := hx 0 _ rfl
    obtain ⟨a0, e0, _⟩ := trod_int1 Try.underlying3 h0
    obtain ⟨m1, y1, h1⟩ := hx 1 _ rfl
    obtain ⟨a1, e1, _⟩ := trod_int1 Try.underlying3 h1
    obtain ⟨m2, y2, h2⟩ := hx 2 _ rfl
    obtain ⟨a2, e2⟩ := trod_bool1 Try.underlying4 h2
    obtain ⟨m3, y3, h3⟩ := hx 3 _ rfl
    obtain ⟨a3, e3, _⟩ := trod_int1 Try.underlying2 h3
    obtain ⟨m4, y4, h4⟩ := hx 4 _ rfl
    obtain ⟨a4, e4, _⟩ := trod_int1 Try.underlying2 h4
    simp only [List.getD, List.getElem?_cons_zero, List.getElem?_cons_succ, Option.getD_some] at e0 e1 e2 e3 e4
    subst e0 e1 e2 e3 e4
    exact ⟨⟨a0, a1, a2, a3, a4⟩, rfl⟩

set_option maxRecDepth 100000 in
set_option maxHeartbeats 2000000 in
theorem pathNil.walk (W : World) (v : Value) (o : OP) (ho : OpenedOp v o) :
    Calls Try.prog 4 #[v] W fun e w' => e = .returned (.bool true) ∧ Below W.heap.size W w' := by
  obtain ⟨k, n, full, t, u⟩ := o
  unfold OpenedOp OP.val at ho
  subst ho
  simp only
  have HB0 := Lib.hid ((Below.refl W.heap.size W).alloc (Nat.le_refl _) (.cells #[.int .i64 k, .int .i64 n, .bool full, .int .i64 t, .int .i64 u] 35))
  go_enter Try.func4, Try.ntmps4
  go_wp2_with fail
  refine (does_any_nil ⟨k, n, full, t, u⟩ _).mono ?_
  rintro e w1 ⟨rfl, t1⟩
  have HB1 := Lib.hid (below_turned HB0.out t1 (by simp))
  clear t1
  go_wp2_with fail
  refine (alike_nil _).mono ?_
  rintro e w2 ⟨rfl, t2⟩
  have HB2 := Lib.hid (below_turned HB1.out t2 (by simp))
  clear t2
  go_wp2_with fail
  refine (active_nil _).mono ?_
  rintro e w3 ⟨rfl, n1, rfl⟩
  go_wp2_with fail
  refine (psize_nil _).mono ?_
  rintro e w3 ⟨rfl, rfl⟩
  go_wp2_with (go_at_call 9; refine (works_any _).mono ?_; rintro e w9 ⟨rfl, g9⟩)
  go_ret
  exact ⟨rfl, below_none (below_drewN n1 HB2.out) g9⟩
end Go.Proofs.Ytfboihbanehgcaa
