/- A table that the law itself has made, and its steps. No condition. -/
import Derived.Test.YtebdnciehobfaaaTimK
namespace Go.Proofs.Ytebdnciehobfaaa
open Go.RowKit Go.Maps
set_option linter.unusedVariables false
set_option linter.unusedSimpArgs false

def heldK (W w : World) (b n : Nat) (L : List ((Int × Int) × Int)) : Prop := ∃ F, tabK w b F n L ∧ (∀ k, k ∈ F → W.heap.size ≤ k) ∧ Below W.heap.size W w
theorem heldK.below {W w : World} {b n : Nat} {L : List ((Int × Int) × Int)} (h : heldK W w b n L) : Below W.heap.size W w := by obtain ⟨F, _, _, h⟩ := h; exact h
theorem heldK.keys {W w : World} {b n : Nat} {L : List ((Int × Int) × Int)} (h : heldK W w b n L) : L.Pairwise (fun a b => a.1 ≠ b.1) := by obtain ⟨F, h, _⟩ := h; exact h.keys
theorem heldK.ok {W w : World} {b n : Nat} {L : List ((Int × Int) × Int)} (h : heldK W w b n L) {x : (Int × Int) × Int} (hx : x ∈ L) : okK x.1 := by obtain ⟨F, h, _⟩ := h; exact h.ok hx
theorem heldK.val {W w : World} {b n n' : Nat} {L L' : List ((Int × Int) × Int)} (h : heldK W w b n L) (e : L = L') (hn : n ≤ n') : heldK W w b n' L' := by obtain ⟨F, h, k⟩ := h; exact ⟨F, e ▸ h.mono hn, k⟩
theorem heldK.step {W w w' : World} {b n : Nat} {L : List ((Int × Int) × Int)} (h : heldK W w b n L) (hg : Below w.heap.size w w') : heldK W w' b n L := by
  obtain ⟨F, h1, h2, h3⟩ := h
  have t : turned w w' [] := ⟨hg.os, hg.tape, hg.output, hg.size, fun k hk _ => hg.block k hk⟩
  exact ⟨F, h1.past t (by simp), h2, h3.trans (hg.mono h3.size)⟩
theorem heldK.drew {W w : World} {b n : Nat} {L : List ((Int × Int) × Int)} (h : heldK W w b n L) : heldK W w.drew b n L := h.step (Below.refl _ _).drew
theorem hnewK {W w : World} (hw : Below W.heap.size W w) :
    Calls Try.prog 27 #[] w fun e w' => e = .returned (.pointer (some ⟨w.heap.size + 1, 0, none⟩)) ∧ heldK W w' (w.heap.size + 1) 0 [] := by
  refine (tnewK w).mono ?_
  rintro e w' ⟨rfl, h1, h2⟩
  have := hw.size
  exact ⟨rfl, _, h1, fun k hk => by simp at hk; omega, below_none hw h2⟩
theorem hsetK {W w : World} {b n : Nat} {L : List ((Int × Int) × Int)} (h : heldK W w b n L) (k : (Int × Int)) (a : Int) (hk : okK k) (hn : n < 4611686018427387904) :
    Calls Try.prog 29 #[.pointer (some ⟨b, 0, none⟩), mkK k, .int .i64 a] w fun e w' => e = .returned (.tuple #[]) ∧ heldK W w' b (n + 1) (drp k L ++ [(k, a)]) := by
  obtain ⟨F, h1, h2, h3⟩ := h
  refine (tsetK b F n L k a w h1 hk hn).mono ?_
  rintro e w' ⟨rfl, h, t⟩
  exact ⟨rfl, F, h, h2, below_turned h3 t h2⟩
theorem hstopK {W w : World} {b n : Nat} {L : List ((Int × Int) × Int)} (h : heldK W w b n L) (k : (Int × Int)) (hk : okK k) :
    Calls Try.prog 31 #[.pointer (some ⟨b, 0, none⟩), mkK k] w fun e w' => e = .returned (.bool (decide (∃ x, x ∈ L ∧ x.1 = k))) ∧ heldK W w' b n (drp k L) := by
  obtain ⟨F, h1, h2, h3⟩ := h
  refine (tstopK b F n L k w h1 hk).mono ?_
  rintro e w' ⟨rfl, h, t⟩
  exact ⟨rfl, F, h, h2, below_turned h3 t h2⟩
theorem hnextK {W w : World} {b n : Nat} {L : List ((Int × Int) × Int)} (h : heldK W w b n L) :
    Calls Try.prog 40 #[.pointer (some ⟨b, 0, none⟩)] w fun e w' => e = .returned (outK (best L)) ∧ heldK W w' b n L := by
  obtain ⟨F, h1, h2, h3⟩ := h
  refine (tnextK b F n L w h1).mono ?_
  rintro e w' ⟨rfl, t⟩
  exact ⟨rfl, F, h1.past t (by simp), h2, below_turned h3 t (by simp)⟩
/-- What Pop does to the row, and what it tells. -/
def popLK (now : Int) (L : List ((Int × Int) × Int)) : List ((Int × Int) × Int) := match best L with
  | none => L
  | some x => if x.2 ≤ now then drp x.1 L else L
def popVK (now : Int) (L : List ((Int × Int) × Int)) : (Int × Int) × Bool := match best L with
  | none => ((0, 0), false)
  | some x => if x.2 ≤ now then (x.1, true) else ((0, 0), false)
theorem hpopK {W w : World} {b n : Nat} {L : List ((Int × Int) × Int)} (h : heldK W w b n L) (now : Int) :
    Calls Try.prog 33 #[.pointer (some ⟨b, 0, none⟩), .int .i64 now] w fun e w' => e = .returned (.tuple #[mkK (popVK now L).1, .bool (popVK now L).2]) ∧ heldK W w' b n (popLK now L) := by
  obtain ⟨F, h1, h2, h3⟩ := h
  unfold popVK popLK
  cases hb : best L with
  | none =>
    refine (tpopK_no b F n L now w h1 (by rw [hb]; intro x hx; cases hx)).mono ?_
    rintro e w' ⟨rfl, t⟩
    exact ⟨rfl, F, h1.past t (by simp), h2, below_turned h3 t (by simp)⟩
  | some x =>
    by_cases hx : x.2 ≤ now
    · dsimp only
      rw [if_pos hx, if_pos hx]
      refine (tpopK_yes b F n L x now w h1 hb hx).mono ?_
      rintro e w' ⟨rfl, h, t⟩
      exact ⟨rfl, F, h, h2, below_turned h3 t h2⟩
    · dsimp only
      rw [if_neg hx, if_neg hx]
      refine (tpopK_no b F n L now w h1 (by rw [hb]; intro y hy; cases hy; omega)).mono ?_
      rintro e w' ⟨rfl, t⟩
      exact ⟨rfl, F, h1.past t (by simp), h2, below_turned h3 t (by simp)⟩
theorem hlenK {W w : World} {b n : Nat} {L : List ((Int × Int) × Int)} (h : heldK W w b n L) :
    Calls Try.prog 35 #[.pointer (some ⟨b, 0, none⟩)] w fun e w' => e = .returned (.int .i64 (L.length : Int)) ∧ w = w' := by
  obtain ⟨F, h1, h2, h3⟩ := h
  exact tlenK b F n L w h1
end Go.Proofs.Ytebdnciehobfaaa
