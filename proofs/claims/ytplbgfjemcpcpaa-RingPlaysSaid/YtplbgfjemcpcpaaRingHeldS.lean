/- A ring of things of type string that a law made: its methods as the laws use them. Conditions: the ring lies in memory with these things. -/
import Derived.Test.YtplbgfjemcpcpaaRingS
import Derived.Test.YtplbgfjemcpcpaaRingMore
import Derived.Test.YtplbgfjemcpcpaaRingClearS
namespace Go.Proofs.Ytplbgfjemcpcpaa
open Go.RowKit Go.Conc
set_option linter.unusedVariables false
set_option linter.unusedSimpArgs false

/-- A ring in new blocks; old memory is as it was. -/
def heldS (W w : World) (b most : Nat) (Q : List ByteArray) : Prop := ∃ F, ringS w b F most Q ∧ (∀ k, k ∈ F → W.heap.size ≤ k) ∧ Below W.heap.size W w
theorem heldS.below {W w : World} {b most : Nat} {Q : List ByteArray} (h : heldS W w b most Q) : Below W.heap.size W w := by obtain ⟨F, _, _, h⟩ := h; exact h
theorem heldS.step {W w w' : World} {b most : Nat} {Q Q' : List ByteArray} {F F' : List Nat} (hF : ∀ k, k ∈ F → W.heap.size ≤ k) (hB : Below W.heap.size W w) (h' : ringS w' b F' most Q') (hn : newFoot w F F') (ht : turned w w' F) : heldS W w' b most Q' :=
  ⟨F', h', fun k hk => (hn k hk).elim (hF k) (fun h => Nat.le_trans hB.size h), below_turned hB ht hF⟩
theorem heldS.drewN {W w : World} {b most : Nat} {Q : List ByteArray} (h : heldS W w b most Q) (n : Nat) : heldS W (w.drewN n) b most Q := by
  obtain ⟨F, h1, h2, h3⟩ := h; exact ⟨F, h1, h2, below_drewN n h3⟩
theorem heldS.none {W w w' : World} {b most : Nat} {Q : List ByteArray} (h : heldS W w b most Q) (ht : turned w w' []) : heldS W w' b most Q := by
  obtain ⟨F, h1, h2, h3⟩ := h; exact ⟨F, h1.past ht (by simp), h2, below_turned h3 ht (by simp)⟩
theorem heldS.bound {W w : World} {b most : Nat} {Q : List ByteArray} (h : heldS W w b most Q) : Q.length ≤ most ∧ most ≤ 1048576 := by
  obtain ⟨F, ⟨c, sv, first, D, _, _, _, _, _, _, _, _, h9, h10⟩, _⟩ := h
  rw [List.length_map] at h9
  exact ⟨h9, h10⟩
theorem hnewS (W w : World) (hB : Below W.heap.size W w) (m : Int) (h : 1 ≤ m ∧ m ≤ 1048576) :
    Calls Try.prog 23 #[.int .i64 m] w fun e w' => e = .returned (.tuple #[.pointer (some ⟨w.heap.size + 1, 0, none⟩), .int .i64 0]) ∧ heldS W w' (w.heap.size + 1) m.toNat [] ∧ w.heap.size + 1 < w'.heap.size := by
  refine (rnewS m h w).mono ?_
  rintro e w' ⟨rfl, h1, g1⟩
  have hl := ringIs.lt h1 (w.heap.size + 1) (by simp)
  exact ⟨rfl, ⟨_, h1, by intro k hk; have := hB.size; simp at hk; omega, below_none hB g1⟩, hl⟩
theorem hlenS {W w : World} {b most : Nat} {Q : List ByteArray} (h : heldS W w b most Q) :
    Calls Try.prog 32 #[.pointer (some ⟨b, 0, none⟩)] w fun e w' => e = .returned (.int .i64 (Q.length : Int)) ∧ w = w' := by
  obtain ⟨F, h1, h2, h3⟩ := h
  exact rlenS b F most Q w h1
theorem hroomS {W w : World} {b most : Nat} {Q : List ByteArray} (h : heldS W w b most Q) :
    Calls Try.prog 33 #[.pointer (some ⟨b, 0, none⟩)] w fun e w' => e = .returned (.int .i64 ((most : Int) - (Q.length : Int))) ∧ heldS W w' b most Q ∧ turned w w' [] := by
  have h0 := h
  obtain ⟨F, h1, h2, h3⟩ := h
  refine (rroomS b F most Q w h1).mono ?_
  rintro e w' ⟨rfl, n, rfl⟩
  exact ⟨rfl, h0.drewN n, turned_drewN w n []⟩
theorem hpushS {W w : World} {b most : Nat} {Q : List ByteArray} (h : heldS W w b most Q) (x : ByteArray) (hr : Q.length < most) :
    Calls Try.prog 25 #[.pointer (some ⟨b, 0, none⟩), .string x] w fun e w' => e = .returned (.bool true) ∧ heldS W w' b most (Q ++ [x]) := by
  obtain ⟨F, h1, h2, h3⟩ := h
  refine (pushS b F most Q x hr w h1).mono ?_
  rintro e w' ⟨rfl, ⟨F', r1, r2⟩, t⟩
  exact ⟨rfl, heldS.step (Q := Q) h2 h3 r1 r2 t⟩
theorem hfullS {W w : World} {b most : Nat} {Q : List ByteArray} (h : heldS W w b most Q) (x : ByteArray) (hr : ¬ Q.length < most) :
    Calls Try.prog 25 #[.pointer (some ⟨b, 0, none⟩), .string x] w fun e w' => e = .returned (.bool false) ∧ w = w' := by
  obtain ⟨F, h1, h2, h3⟩ := h
  exact pushS_full b F most Q x hr w h1
theorem hpopS {W w : World} {b most : Nat} {Q : List ByteArray} {x : ByteArray} (h : heldS W w b most (x :: Q)) :
    Calls Try.prog 27 #[.pointer (some ⟨b, 0, none⟩)] w fun e w' => e = .returned (.tuple #[.string x, .bool true]) ∧ heldS W w' b most Q := by
  obtain ⟨F, h1, h2, h3⟩ := h
  refine (popS b F most Q x w h1).mono ?_
  rintro e w' ⟨rfl, ⟨F', r1, r2⟩, t⟩
  exact ⟨rfl, heldS.step (Q := Q) h2 h3 r1 r2 t⟩
theorem hemptyS {W w : World} {b most : Nat} (h : heldS W w b most []) :
    Calls Try.prog 27 #[.pointer (some ⟨b, 0, none⟩)] w fun e w' => e = .returned (.tuple #[.string ⟨#[]⟩, .bool false]) ∧ w = w' := by
  obtain ⟨F, h1, h2, h3⟩ := h
  exact popS_empty b F most w h1

theorem hclearS {W w : World} {b most : Nat} {Q : List ByteArray} (h : heldS W w b most Q) :
    Calls Try.prog 31 #[.pointer (some ⟨b, 0, none⟩)] w fun e w' => e = .returned (.tuple #[]) ∧ heldS W w' b most [] := by
  obtain ⟨F, h1, h2, h3⟩ := h
  refine (clearS b F most Q w h1).mono ?_
  rintro e w' ⟨rfl, F', Q', hl, hr, hF, L, ht, hL⟩
  obtain rfl : Q' = [] := by simpa using hl
  exact ⟨rfl, F', hr, fun k hk => (hF k hk).elim (h2 k) (fun h => Nat.le_trans h3.size h), below_turned h3 ht (fun k hk => (hL k hk).elim (h2 k) (fun h => Nat.le_trans h3.size h))⟩

theorem hatS {W w : World} {b most : Nat} {Q : List ByteArray} (h : heldS W w b most Q) (i : Nat) (x : ByteArray) (hi : Q[i]? = some x) :
    Calls Try.prog 29 #[.pointer (some ⟨b, 0, none⟩), .int .i64 (i : Int)] w fun e w' => e = .returned (.tuple #[.string x, .bool true]) ∧ heldS W w' b most Q ∧ turned w w' [] := by
  have h0 := h
  obtain ⟨F, h1, h2, h3⟩ := h
  refine (atS b F most Q i x hi w h1).mono ?_
  rintro e w' ⟨rfl, n, rfl⟩
  exact ⟨rfl, h0.drewN n, turned_drewN w n []⟩
theorem hatS_no {W w : World} {b most : Nat} {Q : List ByteArray} (h : heldS W w b most Q) (i : Int) (hi : i < 0 ∨ (Q.length : Int) ≤ i) :
    Calls Try.prog 29 #[.pointer (some ⟨b, 0, none⟩), .int .i64 i] w fun e w' => e = .returned (.tuple #[.string ⟨#[]⟩, .bool false]) ∧ w = w' := by
  obtain ⟨F, h1, h2, h3⟩ := h
  exact atS_no b F most Q i hi w h1

end Go.Proofs.Ytplbgfjemcpcpaa
