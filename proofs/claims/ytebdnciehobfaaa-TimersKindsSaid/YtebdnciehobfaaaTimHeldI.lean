/- A table that the law itself has made, and its steps. No condition. -/
import Derived.Test.YtebdnciehobfaaaTimI
namespace Go.Proofs.Ytebdnciehobfaaa
open Go.RowKit Go.Maps
set_option linter.unusedVariables false
set_option linter.unusedSimpArgs false

def heldI (W w : World) (b n : Nat) (L : List (Int × Int)) : Prop := ∃ F, tabI w b F n L ∧ (∀ k, k ∈ F → W.heap.size ≤ k) ∧ Below W.heap.size W w
theorem heldI.below {W w : World} {b n : Nat} {L : List (Int × Int)} (h : heldI W w b n L) : Below W.heap.size W w := by obtain ⟨F, _, _, h⟩ := h; exact h
theorem heldI.keys {W w : World} {b n : Nat} {L : List (Int × Int)} (h : heldI W w b n L) : L.Pairwise (fun a b => a.1 ≠ b.1) := by obtain ⟨F, h, _⟩ := h; exact h.keys
theorem heldI.ok {W w : World} {b n : Nat} {L : List (Int × Int)} (h : heldI W w b n L) {x : Int × Int} (hx : x ∈ L) : okI x.1 := by obtain ⟨F, h, _⟩ := h; exact h.ok hx
theorem heldI.val {W w : World} {b n n' : Nat} {L L' : List (Int × Int)} (h : heldI W w b n L) (e : L = L') (hn : n ≤ n') : heldI W w b n' L' := by obtain ⟨F, h, k⟩ := h; exact ⟨F, e ▸ h.mono hn, k⟩
theorem heldI.step {W w w' : World} {b n : Nat} {L : List (Int × Int)} (h : heldI W w b n L) (hg : Below w.heap.size w w') : heldI W w' b n L := by
  obtain ⟨F, h1, h2, h3⟩ := h
  have t : turned w w' [] := ⟨hg.os, hg.tape, hg.output, hg.size, fun k hk _ => hg.block k hk⟩
  exact ⟨F, h1.past t (by simp), h2, h3.trans (hg.mono h3.size)⟩
theorem heldI.drew {W w : World} {b n : Nat} {L : List (Int × Int)} (h : heldI W w b n L) : heldI W w.drew b n L := h.step (Below.refl _ _).drew
theorem hnewI {W w : World} (hw : Below W.heap.size W w) :
    Calls Try.prog 11 #[] w fun e w' => e = .returned (.pointer (some ⟨w.heap.size + 1, 0, none⟩)) ∧ heldI W w' (w.heap.size + 1) 0 [] := by
  refine (tnewI w).mono ?_
  rintro e w' ⟨rfl, h1, h2⟩
  have := hw.size
  exact ⟨rfl, _, h1, fun k hk => by simp at hk; omega, below_none hw h2⟩
theorem hsetI {W w : World} {b n : Nat} {L : List (Int × Int)} (h : heldI W w b n L) (k : Int) (a : Int) (hk : okI k) (hn : n < 4611686018427387904) :
    Calls Try.prog 12 #[.pointer (some ⟨b, 0, none⟩), mkI k, .int .i64 a] w fun e w' => e = .returned (.tuple #[]) ∧ heldI W w' b (n + 1) (drp k L ++ [(k, a)]) := by
  obtain ⟨F, h1, h2, h3⟩ := h
  refine (tsetI b F n L k a w h1 hk hn).mono ?_
  rintro e w' ⟨rfl, h, t⟩
  exact ⟨rfl, F, h, h2, below_turned h3 t h2⟩
theorem hstopI {W w : World} {b n : Nat} {L : List (Int × Int)} (h : heldI W w b n L) (k : Int) (hk : okI k) :
    Calls Try.prog 14 #[.pointer (some ⟨b, 0, none⟩), mkI k] w fun e w' => e = .returned (.bool (decide (∃ x, x ∈ L ∧ x.1 = k))) ∧ heldI W w' b n (drp k L) := by
  obtain ⟨F, h1, h2, h3⟩ := h
  refine (tstopI b F n L k w h1 hk).mono ?_
  rintro e w' ⟨rfl, h, t⟩
  exact ⟨rfl, F, h, h2, below_turned h3 t h2⟩
theorem hnextI {W w : World} {b n : Nat} {L : List (Int × Int)} (h : heldI W w b n L) :
    Calls Try.prog 16 #[.pointer (some ⟨b, 0, none⟩)] w fun e w' => e = .returned (outI (best L)) ∧ heldI W w' b n L := by
  obtain ⟨F, h1, h2, h3⟩ := h
  refine (tnextI b F n L w h1).mono ?_
  rintro e w' ⟨rfl, t⟩
  exact ⟨rfl, F, h1.past t (by simp), h2, below_turned h3 t (by simp)⟩
/-- What Pop does to the row, and what it tells. -/
def popLI (now : Int) (L : List (Int × Int)) : List (Int × Int) := match best L with
  | none => L
  | some x => if x.2 ≤ now then drp x.1 L else L
def popVI (now : Int) (L : List (Int × Int)) : Int × Bool := match best L with
  | none => (0, false)
  | some x => if x.2 ≤ now then (x.1, true) else (0, false)
theorem hpopI {W w : World} {b n : Nat} {L : List (Int × Int)} (h : heldI W w b n L) (now : Int) :
    Calls Try.prog 18 #[.pointer (some ⟨b, 0, none⟩), .int .i64 now] w fun e w' => e = .returned (.tuple #[mkI (popVI now L).1, .bool (popVI now L).2]) ∧ heldI W w' b n (popLI now L) := by
  obtain ⟨F, h1, h2, h3⟩ := h
  unfold popVI popLI
  cases hb : best L with
  | none =>
    refine (tpopI_no b F n L now w h1 (by rw [hb]; intro x hx; cases hx)).mono ?_
    rintro e w' ⟨rfl, t⟩
    exact ⟨rfl, F, h1.past t (by simp), h2, below_turned h3 t (by simp)⟩
  | some x =>
    by_cases hx : x.2 ≤ now
    · dsimp only
      rw [if_pos hx, if_pos hx]
      refine (tpopI_yes b F n L x now w h1 hb hx).mono ?_
      rintro e w' ⟨rfl, h, t⟩
      exact ⟨rfl, F, h, h2, below_turned h3 t h2⟩
    · dsimp only
      rw [if_neg hx, if_neg hx]
      refine (tpopI_no b F n L now w h1 (by rw [hb]; intro y hy; cases hy; omega)).mono ?_
      rintro e w' ⟨rfl, t⟩
      exact ⟨rfl, F, h1.past t (by simp), h2, below_turned h3 t (by simp)⟩
theorem hlenI {W w : World} {b n : Nat} {L : List (Int × Int)} (h : heldI W w b n L) :
    Calls Try.prog 20 #[.pointer (some ⟨b, 0, none⟩)] w fun e w' => e = .returned (.int .i64 (L.length : Int)) ∧ w = w' := by
  obtain ⟨F, h1, h2, h3⟩ := h
  exact tlenI b F n L w h1
end Go.Proofs.Ytebdnciehobfaaa
