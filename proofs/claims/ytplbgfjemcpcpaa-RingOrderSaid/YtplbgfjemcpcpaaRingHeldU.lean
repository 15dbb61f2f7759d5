/- A ring of things of type uint32 that a law made: its methods as the laws use them. Conditions: the ring lies in memory with these things. -/
import Derived.Test.YtplbgfjemcpcpaaRingU
import Derived.Test.YtplbgfjemcpcpaaRingMore
import Derived.Test.YtplbgfjemcpcpaaRingClearU
namespace Go.Proofs.Ytplbgfjemcpcpaa
open Go.RowKit Go.Conc
set_option linter.unusedVariables false
set_option linter.unusedSimpArgs false

/-- A ring in new blocks; old memory is as it was. -/
def heldU (W w : World) (b most : Nat) (Q : List Int) : Prop := ∃ F, ringU w b F most Q ∧ (∀ k, k ∈ F → W.heap.size ≤ k) ∧ Below W.heap.size W w
theorem heldU.below {W w : World} {b most : Nat} {Q : List Int} (h : heldU W w b most Q) : Below W.heap.size W w := by obtain ⟨F, _, _, h⟩ := h; exact h
theorem heldU.step {W w w' : World} {b most : Nat} {Q Q' : List Int} {F F' : List Nat} (hF : ∀ k, k ∈ F → W.heap.size ≤ k) (hB : Below W.heap.size W w) (h' : ringU w' b F' most Q') (hn : newFoot w F F') (ht : turned w w' F) : heldU W w' b most Q' :=
  ⟨F', h', fun k hk => (hn k hk).elim (hF k) (fun h => Nat.le_trans hB.size h), below_turned hB ht hF⟩
theorem heldU.drewN {W w : World} {b most : Nat} {Q : List Int} (h : heldU W w b most Q) (n : Nat) : heldU W (w.drewN n) b most Q := by
  obtain ⟨F, h1, h2, h3⟩ := h; exact ⟨F, h1, h2, below_drewN n h3⟩
theorem heldU.none {W w w' : World} {b most : Nat} {Q : List Int} (h : heldU W w b most Q) (ht : turned w w' []) : heldU W w' b most Q := by
  obtain ⟨F, h1, h2, h3⟩ := h; exact ⟨F, h1.past ht (by simp), h2, below_turned h3 ht (by simp)⟩
theorem heldU.bound {W w : World} {b most : Nat} {Q : List Int} (h : heldU W w b most Q) : Q.length ≤ most ∧ most ≤ 1048576 := by
  obtain ⟨F, ⟨c, sv, first, D, _, _, _, _, _, _, _, _, h9, h10⟩, _⟩ := h
  rw [List.length_map] at h9
  exact ⟨h9, h10⟩
theorem hnewU (W w : World) (hB : Below W.heap.size W w) (m : Int) (h : 1 ≤ m ∧ m ≤ 1048576) :
    Calls Try.prog 11 #[.int .i64 m] w fun e w' => e = .returned (.tuple #[.pointer (some ⟨w.heap.size + 1, 0, none⟩), .int .i64 0]) ∧ heldU W w' (w.heap.size + 1) m.toNat [] ∧ w.heap.size + 1 < w'.heap.size := by
  refine (rnewU m h w).mono ?_
  rintro e w' ⟨rfl, h1, g1⟩
  have hl := ringIs.lt h1 (w.heap.size + 1) (by simp)
  exact ⟨rfl, ⟨_, h1, by intro k hk; have := hB.size; simp at hk; omega, below_none hB g1⟩, hl⟩
theorem hlenU {W w : World} {b most : Nat} {Q : List Int} (h : heldU W w b most Q) :
    Calls Try.prog 14 #[.pointer (some ⟨b, 0, none⟩)] w fun e w' => e = .returned (.int .i64 (Q.length : Int)) ∧ w = w' := by
  obtain ⟨F, h1, h2, h3⟩ := h
  exact rlenU b F most Q w h1
theorem hroomU {W w : World} {b most : Nat} {Q : List Int} (h : heldU W w b most Q) :
    Calls Try.prog 15 #[.pointer (some ⟨b, 0, none⟩)] w fun e w' => e = .returned (.int .i64 ((most : Int) - (Q.length : Int))) ∧ heldU W w' b most Q ∧ turned w w' [] := by
  have h0 := h
  obtain ⟨F, h1, h2, h3⟩ := h
  refine (rroomU b F most Q w h1).mono ?_
  rintro e w' ⟨rfl, n, rfl⟩
  exact ⟨rfl, h0.drewN n, turned_drewN w n []⟩
theorem hpushU {W w : World} {b most : Nat} {Q : List Int} (h : heldU W w b most Q) (x : Int) (hr : Q.length < most) :
    Calls Try.prog 12 #[.pointer (some ⟨b, 0, none⟩), .int .u32 x] w fun e w' => e = .returned (.bool true) ∧ heldU W w' b most (Q ++ [x]) := by
  obtain ⟨F, h1, h2, h3⟩ := h
  refine (pushU b F most Q x hr w h1).mono ?_
  rintro e w' ⟨rfl, ⟨F', r1, r2⟩, t⟩
  exact ⟨rfl, heldU.step (Q := Q) h2 h3 r1 r2 t⟩
theorem hfullU {W w : World} {b most : Nat} {Q : List Int} (h : heldU W w b most Q) (x : Int) (hr : ¬ Q.length < most) :
    Calls Try.prog 12 #[.pointer (some ⟨b, 0, none⟩), .int .u32 x] w fun e w' => e = .returned (.bool false) ∧ w = w' := by
  obtain ⟨F, h1, h2, h3⟩ := h
  exact pushU_full b F most Q x hr w h1
theorem hpopU {W w : World} {b most : Nat} {Q : List Int} {x : Int} (h : heldU W w b most (x :: Q)) :
    Calls Try.prog 13 #[.pointer (some ⟨b, 0, none⟩)] w fun e w' => e = .returned (.tuple #[.int .u32 x, .bool true]) ∧ heldU W w' b most Q := by
  obtain ⟨F, h1, h2, h3⟩ := h
  refine (popU b F most Q x w h1).mono ?_
  rintro e w' ⟨rfl, ⟨F', r1, r2⟩, t⟩
  exact ⟨rfl, heldU.step (Q := Q) h2 h3 r1 r2 t⟩
theorem hemptyU {W w : World} {b most : Nat} (h : heldU W w b most []) :
    Calls Try.prog 13 #[.pointer (some ⟨b, 0, none⟩)] w fun e w' => e = .returned (.tuple #[.int .u32 0, .bool false]) ∧ w = w' := by
  obtain ⟨F, h1, h2, h3⟩ := h
  exact popU_empty b F most w h1

theorem hclearU {W w : World} {b most : Nat} {Q : List Int} (h : heldU W w b most Q) :
    Calls Try.prog 34 #[.pointer (some ⟨b, 0, none⟩)] w fun e w' => e = .returned (.tuple #[]) ∧ heldU W w' b most [] := by
  obtain ⟨F, h1, h2, h3⟩ := h
  refine (clearU b F most Q w h1).mono ?_
  rintro e w' ⟨rfl, F', Q', hl, hr, hF, L, ht, hL⟩
  obtain rfl : Q' = [] := by simpa using hl
  exact ⟨rfl, F', hr, fun k hk => (hF k hk).elim (h2 k) (fun h => Nat.le_trans h3.size h), below_turned h3 ht (fun k hk => (hL k hk).elim (h2 k) (fun h => Nat.le_trans h3.size h))⟩

/-- Two rings in new blocks that share none. -/
def both (W w : World) (a b ma mb : Nat) (A B : List Int) : Prop := ∃ F G, ringU w a F ma A ∧ ringU w b G mb B ∧ (∀ k, k ∈ F → W.heap.size ≤ k) ∧ (∀ k, k ∈ G → W.heap.size ≤ k) ∧ (∀ k, k ∈ F → k ∉ G) ∧ Below W.heap.size W w
theorem both.turn {W w : World} {a b ma mb : Nat} {A B : List Int} (h : both W w a b ma mb A B) : both W w b a mb ma B A := by
  obtain ⟨F, G, h1, h2, h3, h4, h5, h6⟩ := h
  exact ⟨G, F, h2, h1, h4, h3, fun k hk hf => h5 k hf hk, h6⟩
theorem both.below {W w : World} {a b ma mb : Nat} {A B : List Int} (h : both W w a b ma mb A B) : Below W.heap.size W w := by
  obtain ⟨F, G, h1, h2, h3, h4, h5, h6⟩ := h; exact h6
theorem both.bound {W w : World} {a b ma mb : Nat} {A B : List Int} (h : both W w a b ma mb A B) : A.length ≤ ma := by
  obtain ⟨F, G, ⟨c, sv, first, D, _, _, _, _, _, _, _, _, h9, h10⟩, _⟩ := h
  rw [List.length_map] at h9
  exact h9
theorem both.step {W w w' : World} {a b ma mb : Nat} {A' B : List Int} {F G F' : List Nat} (h2 : ringU w b G mb B) (h3 : ∀ k, k ∈ F → W.heap.size ≤ k) (h4 : ∀ k, k ∈ G → W.heap.size ≤ k) (h5 : ∀ k, k ∈ F → k ∉ G) (h6 : Below W.heap.size W w)
    (r1 : ringU w' a F' ma A') (r2 : newFoot w F F') (t : turned w w' F) : both W w' a b ma mb A' B := by
  refine ⟨F', G, r1, h2.past t (fun k hk hf => h5 k hf hk), fun k hk => (r2 k hk).elim (h3 k) (fun h => Nat.le_trans h6.size h), h4, fun k hk hg => ?_, below_turned h6 t h3⟩
  rcases r2 k hk with h | h
  · exact h5 k h hg
  · have := ringIs.lt h2 k hg; omega
theorem bpush {W w : World} {a b ma mb : Nat} {A B : List Int} (h : both W w a b ma mb A B) (x : Int) (hr : A.length < ma) :
    Calls Try.prog 12 #[.pointer (some ⟨a, 0, none⟩), .int .u32 x] w fun e w' => e = .returned (.bool true) ∧ both W w' a b ma mb (A ++ [x]) B := by
  obtain ⟨F, G, h1, h2, h3, h4, h5, h6⟩ := h
  refine (pushU a F ma A x hr w h1).mono ?_
  rintro e w' ⟨rfl, ⟨F', r1, r2⟩, t⟩
  exact ⟨rfl, both.step h2 h3 h4 h5 h6 r1 r2 t⟩
theorem bpop {W w : World} {a b ma mb : Nat} {A B : List Int} {x : Int} (h : both W w a b ma mb (x :: A) B) :
    Calls Try.prog 13 #[.pointer (some ⟨a, 0, none⟩)] w fun e w' => e = .returned (.tuple #[.int .u32 x, .bool true]) ∧ both W w' a b ma mb A B := by
  obtain ⟨F, G, h1, h2, h3, h4, h5, h6⟩ := h
  refine (popU a F ma A x w h1).mono ?_
  rintro e w' ⟨rfl, ⟨F', r1, r2⟩, t⟩
  exact ⟨rfl, both.step h2 h3 h4 h5 h6 r1 r2 t⟩
theorem blen {W w : World} {a b ma mb : Nat} {A B : List Int} (h : both W w a b ma mb A B) :
    Calls Try.prog 14 #[.pointer (some ⟨a, 0, none⟩)] w fun e w' => e = .returned (.int .i64 (A.length : Int)) ∧ w = w' := by
  obtain ⟨F, G, h1, h2, h3, h4, h5, h6⟩ := h
  exact rlenU a F ma A w h1
theorem bnew {W w : World} {a ma : Nat} {A : List Int} (h : heldU W w a ma A) (m : Int) (hm : 1 ≤ m ∧ m ≤ 1048576) :
    Calls Try.prog 11 #[.int .i64 m] w fun e w' => e = .returned (.tuple #[.pointer (some ⟨w.heap.size + 1, 0, none⟩), .int .i64 0]) ∧ both W w' a (w.heap.size + 1) ma m.toNat A [] := by
  obtain ⟨F, h1, h2, h3⟩ := h
  refine (rnewU m hm w).mono ?_
  rintro e w' ⟨rfl, h4, g1⟩
  refine ⟨rfl, F, _, h1.past (turned_none (L := []) g1) (by simp), h4, h2, ?_, ?_, below_none h3 g1⟩
  · intro k hk; have := h3.size; simp at hk; omega
  · intro k hk hk2; have := ringIs.lt h1 k hk; simp at hk2; omega

end Go.Proofs.Ytplbgfjemcpcpaa
