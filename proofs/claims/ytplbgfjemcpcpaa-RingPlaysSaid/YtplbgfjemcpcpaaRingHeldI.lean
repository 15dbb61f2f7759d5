/- A ring of things of type int that a law made: its methods as the laws use them. Conditions: the ring lies in memory with these things. -/
import Derived.Test.YtplbgfjemcpcpaaRingI
import Derived.Test.YtplbgfjemcpcpaaRingMore

namespace Go.Proofs.Ytplbgfjemcpcpaa
open Go.RowKit Go.Conc
set_option linter.unusedVariables false
set_option linter.unusedSimpArgs false

/-- A ring in new blocks; old memory is as it was. -/
def heldI (W w : World) (b most : Nat) (Q : List Int) : Prop := ∃ F, ringI w b F most Q ∧ (∀ k, k ∈ F → W.heap.size ≤ k) ∧ Below W.heap.size W w
theorem heldI.below {W w : World} {b most : Nat} {Q : List Int} (h : heldI W w b most Q) : Below W.heap.size W w := by obtain ⟨F, _, _, h⟩ := h; exact h
theorem heldI.step {W w w' : World} {b most : Nat} {Q Q' : List Int} {F F' : List Nat} (hF : ∀ k, k ∈ F → W.heap.size ≤ k) (hB : Below W.heap.size W w) (h' : ringI w' b F' most Q') (hn : newFoot w F F') (ht : turned w w' F) : heldI W w' b most Q' :=
  ⟨F', h', fun k hk => (hn k hk).elim (hF k) (fun h => Nat.le_trans hB.size h), below_turned hB ht hF⟩
theorem heldI.drewN {W w : World} {b most : Nat} {Q : List Int} (h : heldI W w b most Q) (n : Nat) : heldI W (w.drewN n) b most Q := by
  obtain ⟨F, h1, h2, h3⟩ := h; exact ⟨F, h1, h2, below_drewN n h3⟩
theorem heldI.none {W w w' : World} {b most : Nat} {Q : List Int} (h : heldI W w b most Q) (ht : turned w w' []) : heldI W w' b most Q := by
  obtain ⟨F, h1, h2, h3⟩ := h; exact ⟨F, h1.past ht (by simp), h2, below_turned h3 ht (by simp)⟩
theorem heldI.bound {W w : World} {b most : Nat} {Q : List Int} (h : heldI W w b most Q) : Q.length ≤ most ∧ most ≤ 1048576 := by
  obtain ⟨F, ⟨c, sv, first, D, _, _, _, _, _, _, _, _, h9, h10⟩, _⟩ := h
  rw [List.length_map] at h9
  exact ⟨h9, h10⟩
theorem hnewI (W w : World) (hB : Below W.heap.size W w) (m : Int) (h : 1 ≤ m ∧ m ≤ 1048576) :
    Calls Try.prog 35 #[.int .i64 m] w fun e w' => e = .returned (.tuple #[.pointer (some ⟨w.heap.size + 1, 0, none⟩), .int .i64 0]) ∧ heldI W w' (w.heap.size + 1) m.toNat [] ∧ w.heap.size + 1 < w'.heap.size := by
  refine (rnewI m h w).mono ?_
  rintro e w' ⟨rfl, h1, g1⟩
  have hl := ringIs.lt h1 (w.heap.size + 1) (by simp)
  exact ⟨rfl, ⟨_, h1, by intro k hk; have := hB.size; simp at hk; omega, below_none hB g1⟩, hl⟩
theorem hlenI {W w : World} {b most : Nat} {Q : List Int} (h : heldI W w b most Q) :
    Calls Try.prog 39 #[.pointer (some ⟨b, 0, none⟩)] w fun e w' => e = .returned (.int .i64 (Q.length : Int)) ∧ w = w' := by
  obtain ⟨F, h1, h2, h3⟩ := h
  exact rlenI b F most Q w h1
theorem hroomI {W w : World} {b most : Nat} {Q : List Int} (h : heldI W w b most Q) :
    Calls Try.prog 40 #[.pointer (some ⟨b, 0, none⟩)] w fun e w' => e = .returned (.int .i64 ((most : Int) - (Q.length : Int))) ∧ heldI W w' b most Q ∧ turned w w' [] := by
  have h0 := h
  obtain ⟨F, h1, h2, h3⟩ := h
  refine (rroomI b F most Q w h1).mono ?_
  rintro e w' ⟨rfl, n, rfl⟩
  exact ⟨rfl, h0.drewN n, turned_drewN w n []⟩
theorem hpushI {W w : World} {b most : Nat} {Q : List Int} (h : heldI W w b most Q) (x : Int) (hr : Q.length < most) :
    Calls Try.prog 36 #[.pointer (some ⟨b, 0, none⟩), .int .i64 x] w fun e w' => e = .returned (.bool true) ∧ heldI W w' b most (Q ++ [x]) := by
  obtain ⟨F, h1, h2, h3⟩ := h
  refine (pushI b F most Q x hr w h1).mono ?_
  rintro e w' ⟨rfl, ⟨F', r1, r2⟩, t⟩
  exact ⟨rfl, heldI.step (Q := Q) h2 h3 r1 r2 t⟩
theorem hfullI {W w : World} {b most : Nat} {Q : List Int} (h : heldI W w b most Q) (x : Int) (hr : ¬ Q.length < most) :
    Calls Try.prog 36 #[.pointer (some ⟨b, 0, none⟩), .int .i64 x] w fun e w' => e = .returned (.bool false) ∧ w = w' := by
  obtain ⟨F, h1, h2, h3⟩ := h
  exact pushI_full b F most Q x hr w h1
theorem hpopI {W w : World} {b most : Nat} {Q : List Int} {x : Int} (h : heldI W w b most (x :: Q)) :
    Calls Try.prog 37 #[.pointer (some ⟨b, 0, none⟩)] w fun e w' => e = .returned (.tuple #[.int .i64 x, .bool true]) ∧ heldI W w' b most Q := by
  obtain ⟨F, h1, h2, h3⟩ := h
  refine (popI b F most Q x w h1).mono ?_
  rintro e w' ⟨rfl, ⟨F', r1, r2⟩, t⟩
  exact ⟨rfl, heldI.step (Q := Q) h2 h3 r1 r2 t⟩
theorem hemptyI {W w : World} {b most : Nat} (h : heldI W w b most []) :
    Calls Try.prog 37 #[.pointer (some ⟨b, 0, none⟩)] w fun e w' => e = .returned (.tuple #[.int .i64 0, .bool false]) ∧ w = w' := by
  obtain ⟨F, h1, h2, h3⟩ := h
  exact popI_empty b F most w h1

theorem hatI {W w : World} {b most : Nat} {Q : List Int} (h : heldI W w b most Q) (i : Nat) (x : Int) (hi : Q[i]? = some x) :
    Calls Try.prog 38 #[.pointer (some ⟨b, 0, none⟩), .int .i64 (i : Int)] w fun e w' => e = .returned (.tuple #[.int .i64 x, .bool true]) ∧ heldI W w' b most Q ∧ turned w w' [] := by
  have h0 := h
  obtain ⟨F, h1, h2, h3⟩ := h
  refine (atI b F most Q i x hi w h1).mono ?_
  rintro e w' ⟨rfl, n, rfl⟩
  exact ⟨rfl, h0.drewN n, turned_drewN w n []⟩
theorem hatI_no {W w : World} {b most : Nat} {Q : List Int} (h : heldI W w b most Q) (i : Int) (hi : i < 0 ∨ (Q.length : Int) ≤ i) :
    Calls Try.prog 38 #[.pointer (some ⟨b, 0, none⟩), .int .i64 i] w fun e w' => e = .returned (.tuple #[.int .i64 0, .bool false]) ∧ w = w' := by
  obtain ⟨F, h1, h2, h3⟩ := h
  exact atI_no b F most Q i hi w h1

end Go.Proofs.Ytplbgfjemcpcpaa
