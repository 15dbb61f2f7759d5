/- Rows of pieces that are alike are joined alike; a row grows by a piece. Conditions: named. -/
import Derived.Test.YtcfpgeceenkheaaFragSame
import Derived.Test.YtcfpgeceenkheaaFragRjoin
import Derived.Test.YtcfpgeceenkheaaFragCopy
namespace Go.Proofs.Ytcfpgeceenkheaa
open Go.RowKit Go.Deep
set_option linter.unusedVariables false
set_option linter.unusedSimpArgs false

/-- All rows of pieces that are alike are joined alike, by whatever joins. -/
theorem join_all (X : List PD) (Bs : List (List Int)) (hX : X.length ≤ 100000) (hT : Bs.flatten.length ≤ 1048576) (hb : ∀ B, B ∈ Bs → bytes B) :
    ∃ S U B b, bytes B ∧ B.length ≤ 1048576 ∧ (∀ Y, alikeX X Y → ∀ w w' e, Joined w Y Bs e w' → JoinOut S U B b w e w') := by
  by_cases h : whole X
  · obtain ⟨h0, hw⟩ := id h
    refine ⟨(X[0]'h0).s, !(X[0]'h0).u, Bs.flatten, true, flatten_bytes hb, hT, fun Y hY w w' e hj => ?_⟩
    have h0' : 0 < Y.length := by rw [hY.1]; exact h0
    obtain ⟨b1, b2, b3, _⟩ := hY.2 0 h0 h0'
    obtain ⟨⟨hp', _, a, c, rfl, hr⟩ | ⟨hn, _⟩, t⟩ := hj
    · refine ⟨a, c, ?_, hr, t⟩
      rw [← b1, ← b3]
      rfl
    · exact absurd (whole_alike hY h) hn
  · refine ⟨0, false, [], false, fun x hx => (by cases hx), by simp, fun Y hY w w' e hj => ?_⟩
    obtain ⟨⟨hp', hw, a, c, rfl, hr⟩ | ⟨hn, rfl⟩, t⟩ := hj
    · exact absurd (whole_alike hY.symm hw) h
    · exact ⟨none, 0, rfl, World.ownsRow_nil _ _ _ _, t⟩
theorem LiesB.grown {w w' : World} {a : Option Addr} {n cap : Nat} {B : List Int} {row : Option Nat} (h : LiesB w (.slice a n cap) B) (hg : w.grownBy w' row) (hne : 0 < B.length → ∀ p, a = some p → row ≠ some p.block) : LiesB w' (.slice a n cap) B := by
  refine ⟨?_, h.2⟩
  obtain ⟨⟨h0, a', cap', e, h1, h2, h3⟩, _⟩ := h
  cases e
  refine ⟨h0, a, cap, rfl, h1, h2, fun hn => ?_⟩
  obtain ⟨b, off, rfl, hb, hc⟩ := h3 hn
  refine ⟨b, off, rfl, Nat.lt_of_lt_of_le hb hg.size, fun j u hu => ?_⟩
  rw [World.cell?_of_block (hg.block b hb (fun e => hne hn _ rfl e.symm))]
  exact hc j u hu
/-- A piece more. -/
theorem RowF.snoc {n₀ : Nat} {w w' : World} {v v' : Value} {Y : List PD} {Cs : List (List Int)} (h : RowF n₀ w v Y Cs) (hg : w.grownBy w' v.ownBlock) (x : PD) (hok : x.ok) (C : List Int) (hx : LiesB w (.slice x.ba x.bn x.bc) C) (m : Nat) (hm : m = Y.length + 1) (ho : w'.ownsRow n₀ 38 7 v' m (flat cPD (Y ++ [x])))
    (hv : v'.ownBlock = v.ownBlock ∨ v'.ownBlock = some w.heap.size) (hout : 0 < C.length → ∀ a, x.ba = some a → v.ownBlock ≠ some a.block) : RowF n₀ w' v' (Y ++ [x]) (Cs ++ [C]) := by
  subst hm
  have key : ∀ (y : PD) (D : List Int), LiesB w (.slice y.ba y.bn y.bc) D → (0 < D.length → ∀ a, y.ba = some a → v.ownBlock ≠ some a.block) → LiesB w' (.slice y.ba y.bn y.bc) D ∧ (0 < D.length → ∀ a, y.ba = some a → v'.ownBlock ≠ some a.block) := fun y D hy h2 => by
    refine ⟨hy.grown hg h2, fun h0 a ea e => ?_⟩
    rcases hv with e' | e'
    · exact h2 h0 a ea (e' ▸ e)
    · obtain ⟨b, off, eb, hb, _⟩ := hy.cell 0 h0
      rw [ea] at eb
      cases eb
      rw [e'] at e
      simp at e
      omega
  refine ⟨by rw [List.length_append]; exact ho, fun y hy => ?_, by rw [List.length_append, List.length_append, h.2.2.1]; rfl, fun i hi hi' => ?_⟩
  · rcases List.mem_append.1 hy with hy | hy
    · exact h.2.1 y hy
    · rw [List.mem_singleton.1 hy]; exact hok
  · rcases Nat.lt_or_ge i Y.length with g1 | g1
    · rw [List.getElem_append_left g1, List.getElem_append_left (by rw [h.2.2.1]; exact g1)]
      have q := h.2.2.2 i g1 (by rw [h.2.2.1]; exact g1)
      exact key _ _ q.1 q.2
    · obtain rfl : i = Y.length := by simp at hi; omega
      rw [List.getElem_append_right (Nat.le_refl _), List.getElem_append_right (by rw [h.2.2.1]; exact Nat.le_refl _)]
      simp only [h.2.2.1, Nat.sub_self, List.getElem_singleton]
      exact key x C hx hout
end Go.Proofs.Ytcfpgeceenkheaa
