/- frag.Cut and frag.Join as the statements use them. Conditions: named. -/
import Derived.Test.YtcfpgeceenkheaaFragCut
import Derived.Test.YtcfpgeceenkheaaFragJoin
import Derived.Test.YtcfpgeceenkheaaFragEq
import Derived.Test.YtcfpgeceenkheaaFragBad
import Derived.Test.YtcfpgeceenkheaaFragLong
import Derived.Test.YtcfpgeceenkheaaFragOpen
namespace Go.Proofs.Ytcfpgeceenkheaa
open Go.RowKit Go.Deep
set_option linter.unusedVariables false
set_option linter.unusedSimpArgs false

/-- How many pieces there are. -/
def nP (n most : Nat) : Nat := 1 + (n - 1) / most
theorem nP_ge {n most : Nat} (h : 1 ≤ n) (hm : 1 ≤ most) : n ≤ nP n most * most := by
  unfold nP
  have h1 := Nat.div_add_mod (n - 1) most
  have h2 := Nat.mod_lt (n - 1) (show 0 < most by omega)
  rw [Nat.add_mul, Nat.one_mul, Nat.mul_comm ((n - 1) / most)]
  omega
theorem nP_lt {n most k : Nat} (h : 1 ≤ n) (hk : k < nP n most) : k * most < n := by
  unfold nP at hk
  have h1 := Nat.div_mul_le_self (n - 1) most
  have h2 : k * most ≤ (n - 1) / most * most := Nat.mul_le_mul_right _ (by omega)
  omega
theorem nP_le {n most : Nat} (h : 1 ≤ n) : nP n most ≤ n := by unfold nP; have := Nat.div_le_self (n - 1) most; omega
theorem nP_pos (n most : Nat) : 1 ≤ nP n most := Nat.le_add_right 1 _
/-- What frag.Cut leaves of a message that has pieces. -/
def CutGood (w : World) (s own : Int) (u : Bool) (B : List Int) (most q : Nat) (e : Ending) (w' : World) : Prop :=
  ∃ g cap X, e = .returned (.tuple #[.slice (some ⟨g, 0, none⟩) q cap, .int .i64 0]) ∧ q ≤ cap ∧ cap ≤ 9223372036854775807 ∧ Made w.heap.size w' (.slice (some ⟨g, 0, none⟩) q cap) X ((List.range q).map (bit B most)) ∧ LiesF w' (.slice (some ⟨g, 0, none⟩) q cap) X ((List.range q).map (bit B most)) ∧
    shapedL s own u X ∧ X.length = q ∧ whole X ∧ (∀ i (hi : i < X.length), (X[i]'hi).bn = pieceLen B.length most i ∧ 1 ≤ (X[i]'hi).bn) ∧ turned w w' []
theorem fcut_use (s : Int) (o : Bool) (ssn : Int) (v : Value) (B : List Int) (most : Nat) (w : World) (hv : LiesB w v B) (h0 : 1 ≤ B.length) (h1 : B.length ≤ 1048576) (hm : 1 ≤ most) (hm2 : most ≤ 9223372036854775807) (hs : 0 ≤ s ∧ s < 65536) (hn : 0 ≤ ssn ∧ ssn < 65536) :
    Calls Try.prog 13 #[.agg #[.int .u16 s, .bool o, v], .int .u16 ssn, .int .i64 (most : Int)] w (CutGood w s (bif o then ssn else 0) (!o) B most (nP B.length most)) := by
  obtain ⟨a, cap, rfl, hc1, hc2⟩ := hv.1.form
  refine (fcut_good s o ssn a cap B most (nP B.length most) w hv h0 h1 hc1 hc2 hm hm2 (nP_ge h0 hm) (fun k hk => nP_lt h0 hk) (by have := nP_le (most := most) h0; omega)).mono ?_
  rintro e w' ⟨v, X, rfl, hmade, hsh, hl, t⟩
  have hp0 : 0 < X.length := by have := nP_pos B.length most; omega
  have hbn : ∀ i (hi : i < X.length), (X[i]'hi).bn = pieceLen B.length most i ∧ 1 ≤ (X[i]'hi).bn := fun i hi => by
    have e1 := hmade.bn i hi (by rw [hmade.2.1]; exact hi)
    rw [bits_at, bit_len] at e1
    have e2 := bit_pos (B := B) hm (nP_lt h0 (show i < nP B.length most by omega))
    rw [bit_len] at e2
    exact ⟨e1, by omega⟩
  have hwh := whole_of hsh hp0 (fun i hi => by have := (hbn i hi).2; omega)
  have hown : 0 ≤ (bif o then ssn else 0) ∧ (bif o then ssn else 0) < 65536 := by cases o <;> simp <;> omega
  have hlies := hmade.lies (hsh.ok hs hown) (bits_bytes hv.2 most _)
  obtain ⟨va, vc, rfl, hd1, hd2, hva⟩ := row_form hmade.1
  obtain ⟨g, rfl⟩ := hva hp0
  rw [hl] at hmade hlies hd1
  have hd2' : vc ≤ 9223372036854775807 := hd2
  exact ⟨g, vc, X, by rw [hl], hd1, hd2', hmade, hlies, hsh, hl, hwh, hbn, t⟩
theorem fcut_none (s : Int) (o : Bool) (ssn : Int) (v : Value) (B : List Int) (most : Int) (w : World) (hv : LiesB w v B) (h : most < 1 ∨ (1 ≤ most ∧ (B.length = 0 ∨ 1048576 < B.length))) :
    Calls Try.prog 13 #[.agg #[.int .u16 s, .bool o, v], .int .u16 ssn, .int .i64 most] w fun e w' => e = .returned (noCut (if most < 1 then 1 else 5)) ∧ turned w w' [] := by
  obtain ⟨a, cap, rfl, hc1, hc2⟩ := hv.1.form
  rcases h with h | ⟨h, h'⟩
  · rw [if_pos h]; exact fcut_arg s o ssn a B.length cap most w h
  · rw [if_neg (by omega)]; exact fcut_size s o ssn a B.length cap most w h h'
/-- Pieces that are whole are joined; others are not. -/
theorem fjoin_yes (v : Value) (X : List PD) (Bs : List (List Int)) (w : World) (h : LiesF w v X Bs) (hX : X.length ≤ 100000) (hT : Bs.flatten.length ≤ 1048576) (hw : whole X) (s : Int) (u : Bool) (hp : 0 < X.length) (hs : (X[0]'hp).s = s) (hu : (X[0]'hp).u = u) :
    Calls Try.prog 20 #[v] w fun e w' => ∃ a c, e = .returned (.tuple #[.agg #[.int .u16 s, .bool (!u), .slice a Bs.flatten.length c], .bool true]) ∧ w'.ownsRow w.heap.size 5 1 (.slice a Bs.flatten.length c) Bs.flatten.length (flat cB Bs.flatten) ∧ turned w w' [] := by
  refine (fjoin v X Bs w h hX hT).mono ?_
  rintro e w' ⟨⟨hp', _, a, c, rfl, hr⟩ | ⟨hn, _⟩, t⟩
  · subst hs; subst hu
    exact ⟨a, c, rfl, hr, t⟩
  · exact absurd hw hn
theorem fjoin_no (v : Value) (X : List PD) (Bs : List (List Int)) (w : World) (h : LiesF w v X Bs) (hX : X.length ≤ 100000) (hT : Bs.flatten.length ≤ 1048576) (hw : ¬ whole X) :
    Calls Try.prog 20 #[v] w fun e w' => e = .returned noMsg ∧ turned w w' [] := by
  refine (fjoin v X Bs w h hX hT).mono ?_
  rintro e w' ⟨⟨hp', hw', a, c, rfl, hr⟩ | ⟨_, rfl⟩, t⟩
  · exact absurd hw' hw
  · exact ⟨rfl, t⟩
theorem eqb_yes (a b : Value) (A : List Int) (w : World) (ha : LiesB w a A) (hb : LiesB w b A) (hA : A.length ≤ 4000000) :
    Calls Try.prog 23 #[a, b] w (Reads w (.bool true)) := by
  have := eqb a b A A w ha hb hA hA
  rwa [decide_eq_true rfl] at this
theorem sameMsg_yes (s : Int) (o : Bool) (a b : Value) (A : List Int) (w : World) (ha : LiesB w a A) (hb : LiesB w b A) (hA : A.length ≤ 4000000) :
    Calls Try.prog 22 #[.agg #[.int .u16 s, .bool o, a], .agg #[.int .u16 s, .bool o, b]] w fun e w' => e = .returned (.bool true) ∧ turned w w' [] := by
  have := sameMsg s s o o a b A A w ha hb hA hA
  rwa [decide_eq_true ⟨rfl, rfl, rfl⟩] at this
theorem long_no (s : Int) (o : Bool) (v : Value) (B : List Int) (most : Int) (w : World) (hv : LiesB w v B) (hm : -9223372036854775808 ≤ most ∧ most ≤ 9223372036854775807) (h : ¬ isLong B.length most) :
    Calls Try.prog 10 #[.agg #[.int .u16 s, .bool o, v], .int .i64 most] w fun e w' => e = .returned (.bool false) ∧ turned w w' [] := by
  obtain ⟨a, cap, rfl, hc1, hc2⟩ := hv.1.form
  have := long17 s o a B.length cap most w (by omega) hm
  rwa [decide_eq_false h] at this
theorem long_yes (s : Int) (o : Bool) (v : Value) (B : List Int) (most : Int) (w : World) (hv : LiesB w v B) (hm : -9223372036854775808 ≤ most ∧ most ≤ 9223372036854775807) (h : isLong B.length most) :
    Calls Try.prog 10 #[.agg #[.int .u16 s, .bool o, v], .int .i64 most] w fun e w' => e = .returned (.bool true) ∧ turned w w' [] := by
  obtain ⟨a, cap, rfl, hc1, hc2⟩ := hv.1.form
  have := long17 s o a B.length cap most w (by omega) hm
  rwa [decide_eq_true h] at this
/-- The box of a message. -/
theorem msgBox (W : World) (s : Int) (o : Bool) (v : Value) : obj (W.alloc (.cells #[.int .u16 s, .bool o, v] 25)) W.heap.size 25 [.int .u16 s, .bool o, v] := obj.new W 25 [.int .u16 s, .bool o, v]
theorem piece_cells {w : World} {g n cap : Nat} {X : List PD} (h : LiesD w (.slice (some ⟨g, 0, none⟩) n cap) X) (j : Nat) (hj : j < X.length) {x : PD} (hx : X[j]'hj = x) :
    w.cell? ⟨g, j * 7, none⟩ = some (.int .u32 x.t) ∧ w.cell? ⟨g, j * 7 + 1, none⟩ = some (.int .u16 x.s) ∧ w.cell? ⟨g, j * 7 + 2, none⟩ = some (.int .u16 x.n) ∧ w.cell? ⟨g, j * 7 + 3, none⟩ = some (.bool x.u) ∧ w.cell? ⟨g, j * 7 + 4, none⟩ = some (.bool x.f) ∧ w.cell? ⟨g, j * 7 + 5, none⟩ = some (.bool x.l) ∧ w.cell? ⟨g, j * 7 + 6, none⟩ = some (.slice x.ba x.bn x.bc) := by
  obtain ⟨b1, off1, e1, hb1, c0, c1, c2, c3, c4, c5, c6⟩ := h.cells j hj
  simp only [Option.some.injEq, Addr.mk.injEq, and_true] at e1
  obtain ⟨rfl, rfl⟩ := e1
  simp only [Nat.zero_add] at c0 c1 c2 c3 c4 c5 c6
  subst hx
  exact ⟨c0, c1, c2, c3, c4, c5, c6⟩
theorem shape_at {s own : Int} {u : Bool} {X : List PD} (h : shapedL s own u X) (j : Nat) (hj : j < X.length) {x : PD} (hx : X[j]'hj = x) : x.t = 0 ∧ x.s = s ∧ x.n = own ∧ x.u = u ∧ x.f = ((j : Int) == 0) ∧ x.l = ((j : Int) == (X.length : Int) - 1) := by
  have e := h j hj
  rw [hx] at e
  have e1 : ((j : Int) == 0) = decide (j = 0) := by rw [Bool.eq_iff_iff, beq_iff_eq, decide_eq_true_eq]; omega
  have e2 : ((j : Int) == (X.length : Int) - 1) = decide (j + 1 = X.length) := by rw [Bool.eq_iff_iff, beq_iff_eq, decide_eq_true_eq]; omega
  rw [e1, e2]
  revert e
  generalize x.ba = a
  generalize x.bn = b
  generalize x.bc = c
  rintro rfl
  exact ⟨rfl, rfl, rfl, rfl, rfl, rfl⟩
theorem next_at {n most j : Nat} (h : 1 ≤ n) (hm : 1 ≤ most) (hj : j < nP n most) : min (j * most) n = j * most ∧ pieceLen n most j ≤ most ∧ 1 ≤ pieceLen n most j ∧ j * most + pieceLen n most j ≤ n ∧ min ((j + 1) * most) n = j * most + pieceLen n most j ∧ (j + 1 < nP n most → pieceLen n most j = most) := by
  have h1 := nP_lt h hj
  have h2 : (j + 1) * most = j * most + most := by rw [Nat.add_mul, Nat.one_mul]
  have h3 : j + 1 < nP n most → (j + 1) * most < n := fun g => nP_lt h g
  unfold pieceLen
  rw [h2] at h3 ⊢
  refine ⟨by omega, by omega, by omega, by omega, by omega, fun g => ?_⟩
  have := h3 g
  omega
end Go.Proofs.Ytcfpgeceenkheaa
