/- A ring of texts and the document's, side by side: each method leaves the other one. Conditions: both lie in memory, apart, in new blocks. -/
import Derived.Test.YtplbgfjemcpcpaaRingRef
import Derived.Test.YtplbgfjemcpcpaaRingHeldS
namespace Go.Proofs.Ytplbgfjemcpcpaa
open Go.RowKit Go.Conc Go.ChangeShapes Go.WideShapes Go.Deep
set_option linter.unusedVariables false
set_option linter.unusedSimpArgs false

/-- Both, apart, in new blocks. -/
def bothS (W w : World) (b q most : Nat) (Q P : List ByteArray) : Prop :=
  ∃ F G, ringS w b F most Q ∧ refS w q G most P ∧ (∀ k, k ∈ F → k ∉ G) ∧ (∀ k, k ∈ F → W.heap.size ≤ k) ∧ (∀ k, k ∈ G → W.heap.size ≤ k) ∧ Below W.heap.size W w
section
variable {W w w' : World} {b q most : Nat} {Q P : List ByteArray}
theorem bothS.below (h : bothS W w b q most Q P) : Below W.heap.size W w := by obtain ⟨F, G, _, _, _, _, _, h⟩ := h; exact h
theorem bothS.stay (h : bothS W w b q most Q P) (t : turned w w' []) : bothS W w' b q most Q P := by
  obtain ⟨F, G, h1, h2, h3, h4, h5, h6⟩ := h
  exact ⟨F, G, h1.past t (by simp), h2.past t (by simp), h3, h4, h5, below_turned h6 t (by simp)⟩
theorem bothS.left {F G F' : List Nat} {Q' : List ByteArray} {L : List Nat} (h1 : ringS w b F most Q) (h2 : refS w q G most P) (h3 : ∀ k, k ∈ F → k ∉ G) (h4 : ∀ k, k ∈ F → W.heap.size ≤ k) (h5 : ∀ k, k ∈ G → W.heap.size ≤ k) (h6 : Below W.heap.size W w)
    (r : ringS w' b F' most Q') (n : newFoot w F F') (t : turned w w' L) (nl : newFoot w F L) : bothS W w' b q most Q' P := by
  refine ⟨F', G, r, h2.past t (fun k hk e => ?_), fun k hk e => ?_, fun k hk => ?_, h5, below_turned h6 t (fun k hk => ?_)⟩
  · rcases nl k e with g | g
    · exact h3 k g hk
    · have := h2.lt k hk; omega
  · rcases n k hk with g | g
    · exact h3 k g e
    · have := h2.lt k e; omega
  · rcases n k hk with g | g
    · exact h4 k g
    · exact Nat.le_trans h6.size g
  · rcases nl k hk with g | g
    · exact h4 k g
    · exact Nat.le_trans h6.size g
theorem bothS.right {F G G' : List Nat} {P' : List ByteArray} (h1 : ringS w b F most Q) (h2 : refS w q G most P) (h3 : ∀ k, k ∈ F → k ∉ G) (h4 : ∀ k, k ∈ F → W.heap.size ≤ k) (h5 : ∀ k, k ∈ G → W.heap.size ≤ k) (h6 : Below W.heap.size W w)
    (r : refS w' q G' most P') (n : newFoot w G G') (t : turned w w' G) : bothS W w' b q most Q P' := by
  refine ⟨F, G', h1.past t h3, r, fun k hk e => ?_, h4, fun k hk => ?_, below_turned h6 t h5⟩
  · rcases n k e with g | g
    · exact h3 k hk g
    · have := ringIs.lt h1 k hk; omega
  · rcases n k hk with g | g
    · exact h5 k g
    · exact Nat.le_trans h6.size g
theorem footRefl (w : World) (F : List Nat) : newFoot w F F := fun k hk => .inl hk
theorem bpush (h : bothS W w b q most Q P) (x : ByteArray) (hr : Q.length < most) :
    Calls Try.prog 25 #[.pointer (some ⟨b, 0, none⟩), .string x] w fun e w' => e = .returned (.bool true) ∧ bothS W w' b q most (Q ++ [x]) P := by
  obtain ⟨F, G, h1, h2, h3, h4, h5, h6⟩ := h
  refine (pushS b F most Q x hr w h1).mono ?_
  rintro e w' ⟨rfl, ⟨F', r1, r2⟩, t⟩
  exact ⟨rfl, bothS.left h1 h2 h3 h4 h5 h6 r1 r2 t (footRefl w F)⟩
theorem bfull (h : bothS W w b q most Q P) (x : ByteArray) (hr : ¬ Q.length < most) :
    Calls Try.prog 25 #[.pointer (some ⟨b, 0, none⟩), .string x] w fun e w' => e = .returned (.bool false) ∧ bothS W w' b q most Q P := by
  have h0 := h
  obtain ⟨F, G, h1, h2, h3, h4, h5, h6⟩ := h
  refine (pushS_full b F most Q x hr w h1).mono ?_
  rintro e w' ⟨rfl, rfl⟩
  exact ⟨rfl, h0⟩
theorem bpop {x : ByteArray} (h : bothS W w b q most (x :: Q) P) :
    Calls Try.prog 27 #[.pointer (some ⟨b, 0, none⟩)] w fun e w' => e = .returned (.tuple #[.string x, .bool true]) ∧ bothS W w' b q most Q P := by
  obtain ⟨F, G, h1, h2, h3, h4, h5, h6⟩ := h
  refine (popS b F most Q x w h1).mono ?_
  rintro e w' ⟨rfl, ⟨F', r1, r2⟩, t⟩
  exact ⟨rfl, bothS.left h1 h2 h3 h4 h5 h6 r1 r2 t (footRefl w F)⟩
theorem bempty (h : bothS W w b q most [] P) :
    Calls Try.prog 27 #[.pointer (some ⟨b, 0, none⟩)] w fun e w' => e = .returned (.tuple #[.string ⟨#[]⟩, .bool false]) ∧ bothS W w' b q most [] P := by
  have h0 := h
  obtain ⟨F, G, h1, h2, h3, h4, h5, h6⟩ := h
  refine (popS_empty b F most w h1).mono ?_
  rintro e w' ⟨rfl, rfl⟩
  exact ⟨rfl, h0⟩
theorem bclear (h : bothS W w b q most Q P) :
    Calls Try.prog 31 #[.pointer (some ⟨b, 0, none⟩)] w fun e w' => e = .returned (.tuple #[]) ∧ bothS W w' b q most [] P := by
  obtain ⟨F, G, h1, h2, h3, h4, h5, h6⟩ := h
  refine (clearS b F most Q w h1).mono ?_
  rintro e w' ⟨rfl, F', Q', hl, hr, hF, L, ht, hL⟩
  obtain rfl : Q' = [] := by simpa using hl
  exact ⟨rfl, bothS.left h1 h2 h3 h4 h5 h6 hr hF ht hL⟩
theorem bat (h : bothS W w b q most Q P) (i : Nat) (x : ByteArray) (hi : Q[i]? = some x) :
    Calls Try.prog 29 #[.pointer (some ⟨b, 0, none⟩), .int .i64 (i : Int)] w fun e w' => e = .returned (.tuple #[.string x, .bool true]) ∧ bothS W w' b q most Q P := by
  have h0 := h
  obtain ⟨F, G, h1, h2, h3, h4, h5, h6⟩ := h
  refine (atS b F most Q i x hi w h1).mono ?_
  rintro e w' ⟨rfl, n, rfl⟩
  exact ⟨rfl, h0.stay (turned_drewN w n [])⟩
theorem batno (h : bothS W w b q most Q P) (i : Int) (hi : i < 0 ∨ (Q.length : Int) ≤ i) :
    Calls Try.prog 29 #[.pointer (some ⟨b, 0, none⟩), .int .i64 i] w fun e w' => e = .returned (.tuple #[.string ⟨#[]⟩, .bool false]) ∧ bothS W w' b q most Q P := by
  have h0 := h
  obtain ⟨F, G, h1, h2, h3, h4, h5, h6⟩ := h
  refine (atS_no b F most Q i hi w h1).mono ?_
  rintro e w' ⟨rfl, rfl⟩
  exact ⟨rfl, h0⟩
theorem rpush (h : bothS W w b q most Q P) (x : ByteArray) (hr : P.length < most) :
    Calls Try.prog 26 #[.pointer (some ⟨q, 0, none⟩), .string x] w fun e w' => e = .returned (.bool true) ∧ bothS W w' b q most Q (P ++ [x]) := by
  obtain ⟨F, G, h1, h2, h3, h4, h5, h6⟩ := h
  refine (qpush q G most P x hr w h2).mono ?_
  rintro e w' ⟨rfl, ⟨G', r1, r2⟩, t⟩
  exact ⟨rfl, bothS.right h1 h2 h3 h4 h5 h6 r1 r2 t⟩
theorem rfull (h : bothS W w b q most Q P) (x : ByteArray) (hr : ¬ P.length < most) :
    Calls Try.prog 26 #[.pointer (some ⟨q, 0, none⟩), .string x] w fun e w' => e = .returned (.bool false) ∧ bothS W w' b q most Q P := by
  have h0 := h
  obtain ⟨F, G, h1, h2, h3, h4, h5, h6⟩ := h
  refine (qpush_full q G most P x hr w h2).mono ?_
  rintro e w' ⟨rfl, t⟩
  exact ⟨rfl, h0.stay t⟩
theorem rpop {x : ByteArray} (h : bothS W w b q most Q (x :: P)) :
    Calls Try.prog 28 #[.pointer (some ⟨q, 0, none⟩)] w fun e w' => e = .returned (.tuple #[.string x, .bool true]) ∧ bothS W w' b q most Q P := by
  obtain ⟨F, G, h1, h2, h3, h4, h5, h6⟩ := h
  refine (qpop q G most P x w h2).mono ?_
  rintro e w' ⟨rfl, ⟨G', r1, r2⟩, t⟩
  exact ⟨rfl, bothS.right h1 h2 h3 h4 h5 h6 r1 r2 t⟩
theorem rempty (h : bothS W w b q most Q []) :
    Calls Try.prog 28 #[.pointer (some ⟨q, 0, none⟩)] w fun e w' => e = .returned (.tuple #[.string ⟨#[]⟩, .bool false]) ∧ bothS W w' b q most Q [] := by
  have h0 := h
  obtain ⟨F, G, h1, h2, h3, h4, h5, h6⟩ := h
  refine (qpop_empty q G most w h2).mono ?_
  rintro e w' ⟨rfl, rfl⟩
  exact ⟨rfl, h0⟩
theorem rat (h : bothS W w b q most Q P) (i : Nat) (x : ByteArray) (hi : P[i]? = some x) :
    Calls Try.prog 30 #[.pointer (some ⟨q, 0, none⟩), .int .i64 (i : Int)] w fun e w' => e = .returned (.tuple #[.string x, .bool true]) ∧ bothS W w' b q most Q P := by
  have h0 := h
  obtain ⟨F, G, h1, h2, h3, h4, h5, h6⟩ := h
  refine (qat q G most P i x hi w h2).mono ?_
  rintro e w' ⟨rfl, rfl⟩
  exact ⟨rfl, h0⟩
theorem ratno (h : bothS W w b q most Q P) (i : Int) (hi : i < 0 ∨ (P.length : Int) ≤ i) :
    Calls Try.prog 30 #[.pointer (some ⟨q, 0, none⟩), .int .i64 i] w fun e w' => e = .returned (.tuple #[.string ⟨#[]⟩, .bool false]) ∧ bothS W w' b q most Q P := by
  have h0 := h
  obtain ⟨F, G, h1, h2, h3, h4, h5, h6⟩ := h
  refine (qat_no q G most P i hi w h2).mono ?_
  rintro e w' ⟨rfl, rfl⟩
  exact ⟨rfl, h0⟩
theorem bothS.refObj (h : bothS W w b q most Q P) : ∃ a c, P.length ≤ c ∧ c ≤ 9223372036854775807 ∧ obj w q 66 [.int .i64 (most : Int), .slice a P.length c] := by
  obtain ⟨F, G, h1, ⟨v, o, r, _⟩, _⟩ := h
  obtain ⟨a, c, rfl, h1, h2, _⟩ := r.form
  exact ⟨a, c, h1, h2, o⟩
theorem bothS.bound (h : bothS W w b q most Q P) : P.length ≤ most ∧ most ≤ 1048576 := by
  obtain ⟨F, G, h1, ⟨v, o, r, _, h4, h5⟩, _⟩ := h
  exact ⟨h4, h5⟩
theorem bothS.clearR (h : bothS W w b q most Q P) : bothS W (w.setCell ⟨q, 1, none⟩ (.slice none 0 0)) b q most Q [] := by
  obtain ⟨F, G, h1, h2, h3, h4, h5, h6⟩ := h
  obtain ⟨v, o, r, rfl, h8, h9⟩ := id h2
  have t : turned w (w.setCell ⟨q, 1, none⟩ (.slice none 0 0)) (q :: v.ownBlock.toList) := turned_set (turned_refl _ _) (by simp) _
  exact bothS.right (G' := [q]) h1 h2 h3 h4 h5 h6 ⟨.slice none 0 0, o.set 1 _, offRow.nil _ _ _ _, rfl, by simp, h9⟩ (fun k hk => .inl (by simp at hk; simp [hk])) t
theorem blen (h : bothS W w b q most Q P) : Calls Try.prog 32 #[.pointer (some ⟨b, 0, none⟩)] w fun e w' => e = .returned (.int .i64 (Q.length : Int)) ∧ w' = w := by
  obtain ⟨F, G, h1, _⟩ := h
  exact calls_flip (rlenS b F most Q w h1)
theorem broom (h : bothS W w b q most Q P) : Calls Try.prog 33 #[.pointer (some ⟨b, 0, none⟩)] w fun e w' => e = .returned (.int .i64 ((most : Int) - (Q.length : Int))) ∧ ∃ m, w' = w.drewN m := by
  obtain ⟨F, G, h1, _⟩ := h
  exact rroomS b F most Q w h1
end
/-- Both, made. -/
theorem bothS.made {W w1 w2 : World} {b q most : Nat} (h : heldS W w1 b most []) (r : refS w2 q [q] most []) (hq : q = w1.heap.size) (t : turned w1 w2 []) : bothS W w2 b q most [] [] := by
  obtain ⟨F, h1, h2, h3⟩ := h
  refine ⟨F, [q], h1.past t (by simp), r, fun k hk e => ?_, h2, fun k hk => ?_, below_turned h3 t (by simp)⟩
  · have := ringIs.lt h1 k hk
    simp at e
    omega
  · simp at hk
    have := h3.size
    omega

/-- The steps, as they come in. -/
def StepsS (W : World) (v : Value) (x : Nat × (Nat → Int) × (Nat → ByteArray) × (Nat → Int)) : Prop :=
  IsSl W v x.1 3 (fun i j => if j = 0 then .int .i64 (x.2.1 i) else if j = 1 then .string (x.2.2.1 i) else .int .i64 (x.2.2.2 i)) ∧ ∀ i, i < x.1 → (-9223372036854775808 ≤ x.2.2.2 i ∧ x.2.2.2 i ≤ 9223372036854775807)
theorem bnd64 {c : Int} (h : (Lit.int .i64 c).wf = true) : -9223372036854775808 ≤ c ∧ c ≤ 9223372036854775807 := by
  have h : (decide (IntKind.i64.min ≤ c) && decide (c ≤ IntKind.i64.max)) = true := h
  rw [show IntKind.i64.min = -9223372036854775808 by decide, show IntKind.i64.max = 9223372036854775807 by decide] at h
  simpa using h
theorem opened51 {H : Type} {enc : TypeId × Value → H} {W : World} {r : Reach} {base : Nat} {v : Value} {d : DataW H} {p : List MemPlace}
    (hv : Value.okWide Try.prog W r base 51 v) (h : DataW.Trod enc Try.prog W 0 (fun _ => true) true 51 v d p) : ∃ x, StepsS W v x := by
  obtain ⟨n, V, hsl, hV⟩ := openSl 3 Try.underlying51 Try.underlying59 (by kernel_rfl) (by kernel_rfl) rfl (by decide) hv h
  have e0 : ∀ i, i < n → ∃ c : Int, V i 0 = .int .i64 c ∧ (Lit.int .i64 c).wf = true := fun i hi => by
    obtain ⟨m, y, hy⟩ := hV i hi 0 _ rfl
    exact trod_int1 Try.underlying3 hy
  have e1 : ∀ i, i < n → ∃ c : ByteArray, V i 1 = .string c := fun i hi => by
    obtain ⟨m, y, hy⟩ := hV i hi 1 _ rfl
    obtain ⟨s, e, _⟩ := DataW.trod_string Try.underlying9 hy
    simp only [List.cons.injEq, and_true] at e
    exact ⟨s, e⟩
  have e2 : ∀ i, i < n → ∃ c : Int, V i 2 = .int .i64 c ∧ (Lit.int .i64 c).wf = true := fun i hi => by
    obtain ⟨m, y, hy⟩ := hV i hi 2 _ rfl
    exact trod_int1 Try.underlying3 hy
  have inh : Inhabited ByteArray := ⟨⟨#[]⟩⟩
  obtain ⟨ks, hks⟩ := choose_lt e0
  obtain ⟨ss, hss⟩ := choose_lt e1
  obtain ⟨is, his⟩ := choose_lt e2
  refine ⟨(n, ks, ss, is), isSl_congr hsl fun i j hi hj => ?_, fun i hi => bnd64 (his i hi).2⟩
  have : j = 0 ∨ j = 1 ∨ j = 2 := by omega
  rcases this with rfl | rfl | rfl
  · rw [(hks i hi).1]; rfl
  · rw [hss i hi]; rfl
  · rw [(his i hi).1]; rfl
end Go.Proofs.Ytplbgfjemcpcpaa
