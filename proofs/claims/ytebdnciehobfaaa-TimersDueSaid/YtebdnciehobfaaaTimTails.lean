/- What is left of rows behind some stops. No condition. -/
import Derived.Test.YtebdnciehobfaaaTimRows
namespace Go.Proofs.Ytebdnciehobfaaa
set_option linter.unusedVariables false
/-- The keys from i on whose time is behind now. -/
def tailed2 (f : Nat → Int) (now : Int) (i n : Nat) (L : List (Int × Int)) : Prop := ∀ y, y ∈ L ↔ ∃ j : Nat, i ≤ j ∧ j < n ∧ now < f j ∧ y = ((j : Int), f j)
theorem tailed2_step {f : Nat → Int} {now : Int} {i n : Nat} {L : List (Int × Int)} (h : tailed2 f now i n L) : tailed2 f now (i + 1) n (drp (i : Int) L) := fun y => by
  rw [mem_drp, h y]
  constructor
  · rintro ⟨⟨j, h1, h2, h3, rfl⟩, hne⟩
    have : j ≠ i := fun e => hne (by rw [e])
    exact ⟨j, by omega, h2, h3, rfl⟩
  · rintro ⟨j, h1, h2, h3, rfl⟩
    exact ⟨⟨j, by omega, h2, h3, rfl⟩, by show (j : Int) ≠ i; omega⟩
theorem tailed2_has {f : Nat → Int} {now : Int} {i n : Nat} {L : List (Int × Int)} (h : tailed2 f now i n L) (hi : i < n) : decide (∃ x, x ∈ L ∧ x.1 = (i : Int)) = decide (now < f i) := by
  apply decide_eq_decide.2
  constructor
  · rintro ⟨x, hx, e⟩
    obtain ⟨j, _, _, h3, rfl⟩ := (h x).1 hx
    have : j = i := Int.ofNat.inj e
    subst this
    exact h3
  · intro hl
    exact ⟨((i : Int), f i), (h _).2 ⟨i, Nat.le_refl _, hi, hl, rfl⟩, rfl⟩
theorem tailed2_end {f : Nat → Int} {now : Int} {i n : Nat} {L : List (Int × Int)} (h : tailed2 f now i n L) (hi : n ≤ i) : L = [] := by
  cases L with
  | nil => rfl
  | cons y r => obtain ⟨j, h1, h2, _⟩ := (h y).1 (by simp); omega
end Go.Proofs.Ytebdnciehobfaaa
