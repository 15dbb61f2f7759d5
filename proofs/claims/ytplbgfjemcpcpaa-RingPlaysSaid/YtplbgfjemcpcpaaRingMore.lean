/- Blocks that writing calls may reach, one call behind the other. No condition. -/
import Derived.Test.YtplbgfjemcpcpaaRing
namespace Go.Proofs.Ytplbgfjemcpcpaa
open Go.RowKit Go.Conc

theorem newFoot_more {w w1 : World} {F F' G : List Nat} (h : newFoot w F F') (hs : w.heap.size ≤ w1.heap.size) (g : newFoot w1 F' G) : newFoot w F G := by
  intro k hk
  rcases g k hk with h1 | h1
  · exact h k h1
  · exact Or.inr (by omega)
theorem turned_foot {w w1 w2 : World} {F F' L : List Nat} (h : newFoot w F F') (ht : turned w w1 L) (hL : newFoot w F L) (t : turned w1 w2 F') : ∃ L, turned w w2 L ∧ newFoot w F L :=
  ⟨L ++ F', turned_trans (turned_more ht (fun k hk => List.mem_append_left _ hk)) (turned_more t (fun k hk => List.mem_append_right _ hk)), fun k hk => by
    rcases List.mem_append.1 hk with h1 | h1
    · exact hL k h1
    · exact h k h1⟩
end Go.Proofs.Ytplbgfjemcpcpaa
