/- A table that the law itself has made, and its steps. No condition. -/
import Derived.Test.YtebdnciehobfaaaTimS
namespace Go.Proofs.Ytebdnciehobfaaa
open Go.RowKit Go.Maps
set_option linter.unusedVariables false
set_option linter.unusedSimpArgs false

def heldS (W w : World) (b n : Nat) (L : List (ByteArray × Int)) : Prop := ∃ F, tabS w b F n L ∧ (∀ k, k ∈ F → W.heap.size ≤ k) ∧ Below W.heap.size W w
theorem heldS.below {W w : World} {b n : Nat} {L : List (ByteArray × Int)} (h : heldS W w b n L) : Below W.heap.size W w := by obtain ⟨F, _, _, h⟩ := h; exact h
theorem heldS.keys {W w : World} {b n : Nat} {L : List (ByteArray × Int)} (h : heldS W w b n L) : L.Pairwise (fun a b => a.1 ≠ b.1) := by obtain ⟨F, h, _⟩ := h; exact h.keys
theorem heldS.ok {W w : World} {b n : Nat} {L : List (ByteArray × Int)} (h : heldS W w b n L) {x : ByteArray × Int} (hx : x ∈ L) : okS x.1 := by obtain ⟨F, h, _⟩ := h; exact h.ok hx
theorem heldS.val {W w : World} {b n n' : Nat} {L L' : List (ByteArray × Int)} (h : heldS W w b n L) (e : L = L') (hn : n ≤ n') : heldS W w b n' L' := by obtain ⟨F, h, k⟩ := h; exact ⟨F, e ▸ h.mono hn, k⟩
theorem heldS.step {W w w' : World} {b n : Nat} {L : List (ByteArray × Int)} (h : heldS W w b n L) (hg : Below w.heap.size w w') : heldS W w' b n L := by
  obtain ⟨F, h1, h2, h3⟩ := h
  have t : turned w w' [] := ⟨hg.os, hg.tape, hg.output, hg.size, fun k hk _ => hg.block k hk⟩
  exact ⟨F, h1.past t (by simp), h2, h3.trans (hg.mono h3.size)⟩
theorem heldS.drew {W w : World} {b n : Nat} {L : List (ByteArray × Int)} (h : heldS W w b n L) : heldS W w.drew b n L := h.step (Below.refl _ _).drew
theorem hnewS {W w : World} (hw : Below W.heap.size W w) :
    Calls Try.prog 26 #[] w fun e w' => e = .returned (.pointer (some ⟨w.heap.size + 1, 0, none⟩)) ∧ heldS W w' (w.heap.size + 1) 0 [] := by
  refine (tnewS w).mono ?_
  rintro e w' ⟨rfl, h1, h2⟩
  have := hw.size
  exact ⟨rfl, _, h1, fun k hk => by simp at hk; omega, below_none hw h2⟩
theorem hsetS {W w : World} {b n : Nat} {L : List (ByteArray × Int)} (h : heldS W w b n L) (k : ByteArray) (a : Int) (hk : okS k) (hn : n < 4611686018427387904) :
    Calls Try.prog 28 #[.pointer (some ⟨b, 0, none⟩), mkS k, .int .i64 a] w fun e w' => e = .returned (.tuple #[]) ∧ heldS W w' b (n + 1) (drp k L ++ [(k, a)]) := by
  obtain ⟨F, h1, h2, h3⟩ := h
  refine (tsetS b F n L k a w h1 hk hn).mono ?_
  rintro e w' ⟨rfl, h, t⟩
  exact ⟨rfl, F, h, h2, below_turned h3 t h2⟩
theorem hstopS {W w : World} {b n : Nat} {L : List (ByteArray × Int)} (h : heldS W w b n L) (k : ByteArray) (hk : okS k) :
    Calls Try.prog 30 #[.pointer (some ⟨b, 0, none⟩), mkS k] w fun e w' => e = .returned (.bool (decide (∃ x, x ∈ L ∧ x.1 = k))) ∧ heldS W w' b n (drp k L) := by
  obtain ⟨F, h1, h2, h3⟩ := h
  refine (tstopS b F n L k w h1 hk).mono ?_
  rintro e w' ⟨rfl, h, t⟩
  exact ⟨rfl, F, h, h2, below_turned h3 t h2⟩
theorem hnextS {W w : World} {b n : Nat} {L : List (ByteArray × Int)} (h : heldS W w b n L) :
    Calls Try.prog 36 #[.pointer (some ⟨b, 0, none⟩)] w fun e w' => e = .returned (outS (best L)) ∧ heldS W w' b n L := by
  obtain ⟨F, h1, h2, h3⟩ := h
  refine (tnextS b F n L w h1).mono ?_
  rintro e w' ⟨rfl, t⟩
  exact ⟨rfl, F, h1.past t (by simp), h2, below_turned h3 t (by simp)⟩
/-- What Pop does to the row, and what it tells. -/
def popLS (now : Int) (L : List (ByteArray × Int)) : List (ByteArray × Int) := match best L with
  | none => L
  | some x => if x.2 ≤ now then drp x.1 L else L
def popVS (now : Int) (L : List (ByteArray × Int)) : ByteArray × Bool := match best L with
  | none => (ByteArray.empty, false)
  | some x => if x.2 ≤ now then (x.1, true) else (ByteArray.empty, false)
theorem hpopS {W w : World} {b n : Nat} {L : List (ByteArray × Int)} (h : heldS W w b n L) (now : Int) :
    Calls Try.prog 32 #[.pointer (some ⟨b, 0, none⟩), .int .i64 now] w fun e w' => e = .returned (.tuple #[mkS (popVS now L).1, .bool (popVS now L).2]) ∧ heldS W w' b n (popLS now L) := by
  obtain ⟨F, h1, h2, h3⟩ := h
  unfold popVS popLS
  cases hb : best L with
  | none =>
    refine (tpopS_no b F n L now w h1 (by rw [hb]; intro x hx; cases hx)).mono ?_
    rintro e w' ⟨rfl, t⟩
    exact ⟨rfl, F, h1.past t (by simp), h2, below_turned h3 t (by simp)⟩
  | some x =>
    by_cases hx : x.2 ≤ now
    · dsimp only
      rw [if_pos hx, if_pos hx]
      refine (tpopS_yes b F n L x now w h1 hb hx).mono ?_
      rintro e w' ⟨rfl, h, t⟩
      exact ⟨rfl, F, h, h2, below_turned h3 t h2⟩
    · dsimp only
      rw [if_neg hx, if_neg hx]
      refine (tpopS_no b F n L now w h1 (by rw [hb]; intro y hy; cases hy; omega)).mono ?_
      rintro e w' ⟨rfl, t⟩
      exact ⟨rfl, F, h1.past t (by simp), h2, below_turned h3 t (by simp)⟩
theorem hlenS {W w : World} {b n : Nat} {L : List (ByteArray × Int)} (h : heldS W w b n L) :
    Calls Try.prog 34 #[.pointer (some ⟨b, 0, none⟩)] w fun e w' => e = .returned (.int .i64 (L.length : Int)) ∧ w = w' := by
  obtain ⟨F, h1, h2, h3⟩ := h
  exact tlenS b F n L w h1
end Go.Proofs.Ytebdnciehobfaaa
