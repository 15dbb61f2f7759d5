/- What both Cuts answer, said alike. Conditions: the bytes lie in memory. -/
import Derived.Test.YtcfpgeceenkheaaFragRcut
namespace Go.Proofs.Ytcfpgeceenkheaa
open Go.RowKit Go.Deep
set_option linter.unusedVariables false
set_option linter.unusedSimpArgs false

theorem twin_of {s own : Int} {u : Bool} {X Y : List PD} (h : shapedL s own u X) (h' : shapedL s own u Y) (hl : Y.length = X.length) : twinX X Y := by
  refine ⟨hl, fun i hi hi' => ?_⟩
  have e := h i hi
  have e' := h' i hi'
  generalize X[i] = x at *
  generalize Y[i] = y at *
  rw [e, e', hl]
  exact ⟨rfl, rfl, rfl, rfl, rfl, rfl⟩
/-- What frag.Cut answers, whatever it is asked. -/
def FAny (w : World) (s own : Int) (u : Bool) (E : Int) (Bs : List (List Int)) (e : Ending) (w' : World) : Prop :=
  ∃ a n c X, e = .returned (.tuple #[.slice a n c, .int .i64 E]) ∧ Made w.heap.size w' (.slice a n c) X Bs ∧ LiesF w' (.slice a n c) X Bs ∧ shapedL s own u X ∧ turned w w' []
/-- What the document's Cut answers. -/
def RAny (w : World) (s own : Int) (u : Bool) (E : Int) (Bs : List (List Int)) (e : Ending) (w' : World) : Prop :=
  ∃ v Y, e = .returned (.tuple #[v, .int .i64 E]) ∧ LiesF w' v Y Bs ∧ shapedL s own u Y ∧ turned w w' []
theorem shapedL_nil (s own : Int) (u : Bool) : shapedL s own u [] := fun i h => by cases h
theorem fany_good (s : Int) (o : Bool) (ssn : Int) (v : Value) (B : List Int) (most : Nat) (w : World) (hv : LiesB w v B) (h0 : 1 ≤ B.length) (h1 : B.length ≤ 1048576) (hm : 1 ≤ most) (hm2 : most ≤ 9223372036854775807) (hs : 0 ≤ s ∧ s < 65536) (hn : 0 ≤ ssn ∧ ssn < 65536) :
    Calls Try.prog 13 #[.agg #[.int .u16 s, .bool o, v], .int .u16 ssn, .int .i64 (most : Int)] w (FAny w s (bif o then ssn else 0) (!o) 0 ((List.range (nP B.length most)).map (bit B most))) := by
  refine (fcut_use s o ssn v B most w hv h0 h1 hm hm2 hs hn).mono ?_
  rintro e w' ⟨g, cap, X, rfl, _, _, hmade, hlies, hsh, _, _, _, t⟩
  exact ⟨_, _, _, X, rfl, hmade, hlies, hsh, t⟩
theorem fany_bad (s : Int) (o : Bool) (ssn : Int) (v : Value) (B : List Int) (most : Int) (w : World) (hv : LiesB w v B) (h : most < 1 ∨ (1 ≤ most ∧ (B.length = 0 ∨ 1048576 < B.length))) :
    Calls Try.prog 13 #[.agg #[.int .u16 s, .bool o, v], .int .u16 ssn, .int .i64 most] w (FAny w s (bif o then ssn else 0) (!o) (if most < 1 then 1 else 5) []) := by
  refine (fcut_none s o ssn v B most w hv h).mono ?_
  rintro e w' ⟨rfl, t⟩
  exact ⟨none, 0, 0, [], rfl, Made.nil _ _, liesF_nil _, shapedL_nil _ _ _, t⟩
theorem rany_good (s : Int) (o : Bool) (ssn : Int) (v : Value) (B : List Int) (most : Nat) (w : World) (hv : LiesB w v B) (h0 : 1 ≤ B.length) (h1 : B.length ≤ 1048576) (hm : 1 ≤ most) (hm2 : most ≤ 9223372036854775807) (hs : 0 ≤ s ∧ s < 65536) (hn : 0 ≤ ssn ∧ ssn < 65536) :
    Calls Try.prog 14 #[.agg #[.int .u16 s, .bool o, v], .int .u16 ssn, .int .i64 (most : Int)] w (RAny w s (bif o then ssn else 0) (!o) 0 ((List.range (nP B.length most)).map (bit B most))) := by
  refine (rcut_good s o ssn v B most w hv h0 h1 hm hm2 hs hn).mono ?_
  rintro e w' ⟨rv, lv, j, Y, rfl, hI, hj1, hj2⟩
  have hjq : j = nP B.length most := by
    have a1 := nP_ge (n := B.length) (most := most) h0 hm
    rcases Nat.lt_trichotomy j (nP B.length most) with h | h | h
    · have := nP_lt h0 h; omega
    · exact h
    · have := hj2 _ h; omega
  have hsh : shapedL s (bif o then ssn else 0) (!o) Y := fun i hi => by
    have e := hI.sh i hi
    have hij : i < j := by rw [← hI.n]; exact hi
    have el : decide (min ((i + 1) * most) B.length = B.length) = decide (i + 1 = Y.length) := by
      rw [hI.n, Bool.eq_iff_iff, decide_eq_true_eq, decide_eq_true_eq]
      rcases Nat.lt_trichotomy (i + 1) j with h | h | h
      · have := hj2 _ h; omega
      · rw [h]; omega
      · omega
    rw [el] at e
    exact e
  have hown : 0 ≤ (bif o then ssn else 0) ∧ (bif o then ssn else 0) < 65536 := by cases o <;> simp <;> omega
  refine ⟨rv, Y, rfl, ⟨⟨Lies.row hI.r, hsh.ok hs hown⟩, by rw [bits_len, hI.n, hjq], fun i hi hi' => ?_⟩, hsh, hI.t⟩
  rw [bits_at]
  exact ⟨Lies.row (hI.b i hi), bit_bytes hv.2 most i⟩
set_option maxRecDepth 100000 in
set_option maxHeartbeats 4000000 in
theorem rany_bad (s : Int) (o : Bool) (ssn : Int) (v : Value) (B : List Int) (most : Int) (w : World) (hv : LiesB w v B) (h : most < 1 ∨ (1 ≤ most ∧ (B.length = 0 ∨ 1048576 < B.length))) :
    Calls Try.prog 14 #[.agg #[.int .u16 s, .bool o, v], .int .u16 ssn, .int .i64 most] w (RAny w s (bif o then ssn else 0) (!o) (if most < 1 then 1 else 5) []) := by
  obtain ⟨a, cap, rfl, hc1, hc2⟩ := hv.1.form
  have T := Lib.hid (turned_alloc (turned_refl w []) (.cells #[.int .u16 s, .bool o, .slice a B.length cap] 25))
  have oX := obj.new w 25 [.int .u16 s, .bool o, .slice a B.length cap]
  have x2 := oX.cell 2 rfl
  clear hv oX
  generalize B.length = n at *
  rcases h with h | ⟨h, h'⟩
  · rw [if_pos h]
    have d1 : decide (most < 1) = true := decide_eq_true h
    go_enter Try.func14, Try.ntmps14
    go_wp2_with fail
    go_ret2
    exact ⟨_, [], rfl, liesF_nil _, shapedL_nil _ _ _, T.out⟩
  · rw [if_neg (by omega)]
    have d1 : decide (most < 1) = false := decide_eq_false (by omega)
    rcases h' with h' | h'
    · subst h'
      go_enter Try.func14, Try.ntmps14
      go_wp2_with fail
      go_ret2
      exact ⟨_, [], rfl, liesF_nil _, shapedL_nil _ _ _, T.out⟩
    · have d2 : ((n : Int) == 0) = false := beq_eq_false_iff_ne.2 (by omega)
      have d3 : decide ((1048576 : Int) < (n : Int)) = true := decide_eq_true (by omega)
      go_enter Try.func14, Try.ntmps14
      go_wp2_with fail
      go_ret2
      exact ⟨_, [], rfl, liesF_nil _, shapedL_nil _ _ _, T.out⟩
/-- A row of a piece, for Apart. -/
theorem piece_pt {n₀ : Nat} {w : World} {x : PD} {B : List Int} (h : rowB w n₀ x B) (h0 : 1 ≤ B.length) : ∃ y : PT, cPT y = [.slice x.ba x.bn x.bc] ∧ y.ok w ∧ n₀ ≤ y.g ∧ ∀ p, x.ba = some p → p.block = y.g := by
  obtain ⟨a', c', e, h1, h2, h3⟩ := row_form h.1
  simp only [Value.slice.injEq] at e
  obtain ⟨e1, e2, e3⟩ := e
  subst e3
  obtain ⟨g, rfl⟩ := h3 (by omega)
  obtain ⟨G, g1, g2, g3⟩ := h.2 _ e1
  refine ⟨⟨g, x.bn, x.bc, G⟩, by rw [e1]; rfl, ⟨g1, g2, by rw [e2]; exact h1, by rw [g3]; exact Nat.le_refl _, h2⟩, (row_lt h.1 g (by rw [e1]; rfl)).1, fun p hp => by rw [e1] at hp; cases hp; rfl⟩
end Go.Proofs.Ytcfpgeceenkheaa
