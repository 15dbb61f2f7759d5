/- The walk of OutqNil, of an argument that came in. No condition. -/
import Derived.Test.YtibnjakiagcopaaOutqNil
import Derived.Test.YtibnjakiagcopaaOutqSized
namespace Go.Proofs.Ytibnjakiagcopaa
open Go.RowKit Go.Deep
set_option linter.unusedVariables false
set_option linter.unusedSimpArgs false

theorem outqNil.walk (W : World) (v : Value) (x : OD × List Int) (h : v = .agg (cOD x.1).toArray ∧ x.1.ok ∧ LiesB W (.slice x.1.m.ba x.1.m.bn x.1.m.bc) x.2 ∧ x.2.length ≤ 140737488351232) :
    Calls Try.prog 8 #[v] W fun e w' => e = .returned (.bool true) ∧ Below W.heap.size W w' := by
  obtain ⟨rfl, h1, h2, h3⟩ := h
  exact outqNil_walk W x.1 x.2 h1 h2 h3
end Go.Proofs.Ytibnjakiagcopaa
