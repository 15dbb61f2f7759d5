/- A ring in memory: its three fields, its channel, its things. No condition. -/
import Derived.Test.YtplbgfjemcpcpaaChan
namespace Go.Proofs.Ytplbgfjemcpcpaa
open Go.RowKit Go.Conc
set_option linter.unusedVariables false
set_option linter.unusedSimpArgs false

/-- Block b is a ring (of type T, its things of type E, sz cells each) that may have most things, and has those of Q; F: the blocks that it may write. -/
def ringIs (w : World) (T E : TypeId) (sz b : Nat) (F : List Nat) (most : Nat) (Q : List (List Value)) : Prop :=
  ∃ (c : Nat) (sv : Value) (first : Nat) (D : List Value), obj w b T [.chan (some c), sv, .int .i64 (first : Int)] ∧ chanIs w c most Q.length ∧ w.ownsRow 0 E sz sv (first + Q.length) (D ++ Q.flatten) ∧
    D.length = first * sz ∧ (∀ q ∈ Q, q.length = sz) ∧ F = b :: c :: sv.ownBlock.toList ∧ T ≠ E ∧ first ≤ Q.length ∧ Q.length ≤ most ∧ most ≤ 1048576

theorem ringIs.sep {w : World} {T E : TypeId} {sz n b c : Nat} {sv : Value} {cs xs : List Value} {cap k : Nat} (h : obj w b T cs) (hc : chanIs w c cap k) (ho : w.ownsRow 0 E sz sv n xs) (hTE : T ≠ E) :
    b ≠ c ∧ sv.ownBlock ≠ some b ∧ sv.ownBlock ≠ some c := by
  obtain ⟨buf, s, r, hc, _⟩ := hc
  refine ⟨fun e => ?_, fun e => ?_, fun e => ?_⟩
  · subst e; unfold obj at h; rw [h] at hc; cases hc
  · rcases ho.2 with ⟨rfl, _⟩ | ⟨g, cap, cur, rfl, _, hg, _⟩
    · cases e
    · simp [Value.ownBlock] at e
      subst e
      unfold obj at h
      rw [h] at hg
      simp only [Option.some.injEq, Obj.cells.injEq] at hg
      exact hTE hg.2.1
  · rcases ho.2 with ⟨rfl, _⟩ | ⟨g, cap, cur, rfl, _, hg, _⟩
    · cases e
    · simp [Value.ownBlock] at e
      subst e
      rw [hc] at hg
      cases hg
theorem ownsRow_past {w w' : World} {base : Nat} {e : TypeId} {sz n : Nat} {v : Value} {xs : List Value} {L : List Nat} (h : w.ownsRow base e sz v n xs) (hg : turned w w' L) (hL : ∀ g, v.ownBlock = some g → g ∉ L) : w'.ownsRow base e sz v n xs := by
  refine ⟨h.1, ?_⟩
  rcases h.2 with hn | ⟨g, cap, cur, rfl, hb, hgg, rest⟩
  · exact Or.inl hn
  · exact Or.inr ⟨g, cap, cur, rfl, hb, (hg.2.2.2.2 g (lt_of_block hgg) (hL g rfl)).trans hgg, rest⟩
theorem grown_undrew {w w' : World} {row : Option Nat} (h : w.drew.grownBy w' row) : w.grownBy w' row := ⟨h.os, h.tape, h.output, h.size, h.block⟩
theorem ownsRow_slice {w : World} {base : Nat} {e : TypeId} {sz n : Nat} {v : Value} {xs : List Value} (h : w.ownsRow base e sz v n xs) : ∃ a m c, v = .slice a m c := by
  rcases h.2 with ⟨rfl, _⟩ | ⟨g, cap, cur, rfl, _⟩
  · exact ⟨_, _, _, rfl⟩
  · exact ⟨_, _, _, rfl⟩
theorem ringIs.past {w w' : World} {T E : TypeId} {sz b : Nat} {F L : List Nat} {most : Nat} {Q : List (List Value)} (h : ringIs w T E sz b F most Q) (hg : turned w w' L) (hL : ∀ k, k ∈ F → k ∉ L) : ringIs w' T E sz b F most Q := by
  obtain ⟨c, sv, first, D, h1, h2, h3, h4, h5, rfl, h7⟩ := h
  refine ⟨c, sv, first, D, h1.past hg (hL b (by simp)), h2.kept (hg.2.2.2.2 c h2.lt (hL c (by simp))), ownsRow_past h3 hg (fun g e => hL g (by simp [e])), h4, h5, rfl, h7⟩
theorem ringIs.lt {w : World} {T E : TypeId} {sz b : Nat} {F : List Nat} {most : Nat} {Q : List (List Value)} (h : ringIs w T E sz b F most Q) : ∀ k, k ∈ F → k < w.heap.size := by
  obtain ⟨c, sv, first, D, h1, h2, h3, h4, h5, rfl, h7⟩ := h
  intro k hk
  simp at hk
  rcases hk with rfl | rfl | hk
  · exact h1.lt
  · exact h2.lt
  · exact (h3.lt k hk).2
/-- The blocks behind a writing call: those from ahead, or new ones. -/
def newFoot (w : World) (F F' : List Nat) : Prop := ∀ k, k ∈ F' → k ∈ F ∨ w.heap.size ≤ k
theorem ringIs.drewN {w : World} {T E : TypeId} {sz b : Nat} {F : List Nat} {most : Nat} {Q : List (List Value)} (h : ringIs w T E sz b F most Q) (n : Nat) : ringIs (w.drewN n) T E sz b F most Q := h
theorem res_s0 (a : Nat) (u z : Value) : commResult #[scase a u z] .select ((0 : Nat) : Int) undef false = .tuple #[goInt 0, .bool false] := by
  simp [commResult, scase, List.zipIdx_cons]
theorem res_sd (a : Nat) (u z : Value) : commResult #[scase a u z] .select (-1) undef false = .tuple #[goInt (-1), .bool false] := by
  simp [commResult, scase, List.zipIdx_cons]
end Go.Proofs.Ytplbgfjemcpcpaa
