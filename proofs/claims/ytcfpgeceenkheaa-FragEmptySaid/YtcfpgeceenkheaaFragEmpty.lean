/- The walk of FragEmpty. No condition. -/
import Derived.Test.YtcfpgeceenkheaaFragRow
namespace Go.Proofs.Ytcfpgeceenkheaa
open Go.ChangeShapes Go.WideShapes Go.RowKit Go.Deep
set_option linter.unusedVariables false
set_option linter.unusedSimpArgs false

theorem join_nil (w : World) : Calls Try.prog 20 #[.slice none 0 0] w fun e w' => e = .returned noMsg ∧ turned w w' [] :=
  fjoin_no (.slice none 0 0) [] [] w (liesF_nil w) (by simp) (by simp) whole_nil
set_option maxRecDepth 100000 in
set_option maxHeartbeats 8000000 in
theorem empty_long (W : World) (s : Int) (o : Bool) (bv : Value) (B : List Int) (most at_ : Int) (hB : LiesB W bv B) (hmb : -9223372036854775808 ≤ most ∧ most ≤ 9223372036854775807) (h : isLong B.length most ∨ (¬ isLong B.length most ∧ 65536 < B.length)) :
    Calls Try.prog 8 #[.agg #[.int .u16 s, .bool o, bv], .int .i64 most, .int .u16 at_] W fun e w' => e = .returned (.bool true) ∧ Below W.heap.size W w' := by
  obtain ⟨a, cap, rfl, hc1, hc2⟩ := hB.1.form
  have OB := Lib.hid (msgBox W s o (.slice a B.length cap))
  have TB := Lib.hid (turned_alloc (turned_refl W []) (.cells #[.int .u16 s, .bool o, .slice a B.length cap] 25))
  have HB := Lib.hid (hB.none_ TB.out)
  clear hB
  go_enter Try.func8, Try.ntmps8
  go_wp2_with fail
  refine (join_nil _).mono ?_
  rintro e w1 ⟨rfl, t1⟩
  unfold noMsg
  have O1 := Lib.hid (OB.out.past t1 (by simp))
  have B1 := Lib.hid (HB.out.none_ t1)
  have T1 := Lib.hid (turned_trans TB.out t1)
  have hw1 := O1.out.lt
  have m0 := O1.out.cell 0 rfl
  have m1 := O1.out.cell 1 rfl
  have m2 := O1.out.cell 2 rfl
  clear t1
  go_wp2_with fail
  generalize hw2 : w1.alloc _ = w2
  have O2 := Lib.hid (old_of hw2 O1.out)
  have B2 := Lib.hid (B1.out.none_ (turned_of hw2))
  have T2 := Lib.hid (turned_trans T1.out (turned_of hw2))
  clear hw2 m0 m1 m2 hw1
  rcases h with h | ⟨h, h'⟩
  · refine (long_yes s o _ B most w2 B2.out hmb h).mono ?_
    rintro e w3 ⟨rfl, t3⟩
    go_wp2_with fail
    refine (works17 _).mono ?_
    rintro e w7 ⟨rfl, t7⟩
    go_wp2
    go_ret
    exact ⟨rfl, turned_below (turned_trans T2.out (turned_trans t3 t7))⟩
  · refine (long_no s o _ B most w2 B2.out hmb h).mono ?_
    rintro e w3 ⟨rfl, t3⟩
    have m2 := (O2.out.past t3 (by simp)).cell 2 rfl
    have T3 := Lib.hid t3
    clear t3
    have d0 : decide ((65536 : Int) < (B.length : Int)) = true := decide_eq_true (by omega)
    go_wp2_with fail
    refine (works17 _).mono ?_
    rintro e w7 ⟨rfl, t7⟩
    go_wp2
    go_ret
    exact ⟨rfl, turned_below (turned_trans T2.out (turned_trans T3.out t7))⟩
set_option maxRecDepth 100000 in
set_option maxHeartbeats 8000000 in
theorem empty_none (W : World) (s : Int) (o : Bool) (bv : Value) (B : List Int) (most at_ : Int) (hB : LiesB W bv B) (hmb : -9223372036854775808 ≤ most ∧ most ≤ 9223372036854775807) (h : most < 1 ∨ (1 ≤ most ∧ B.length = 0)) (hl : ¬ isLong B.length most) (hb : B.length ≤ 65536) :
    Calls Try.prog 8 #[.agg #[.int .u16 s, .bool o, bv], .int .i64 most, .int .u16 at_] W fun e w' => e = .returned (.bool true) ∧ Below W.heap.size W w' := by
  obtain ⟨a, cap, rfl, hc1, hc2⟩ := hB.1.form
  have OB := Lib.hid (msgBox W s o (.slice a B.length cap))
  have TB := Lib.hid (turned_alloc (turned_refl W []) (.cells #[.int .u16 s, .bool o, .slice a B.length cap] 25))
  have HB := Lib.hid (hB.none_ TB.out)
  have HL := Lib.hid hl
  have H := Lib.hid h
  have HC := Lib.hid (fun w => fcut_none s o 1 (.slice a B.length cap) B most w)
  clear hB hl h
  go_enter Try.func8, Try.ntmps8
  go_wp2_with fail
  refine (join_nil _).mono ?_
  rintro e w1 ⟨rfl, t1⟩
  unfold noMsg
  have O1 := Lib.hid (OB.out.past t1 (by simp))
  have B1 := Lib.hid (HB.out.none_ t1)
  have T1 := Lib.hid (turned_trans TB.out t1)
  have hw1 := O1.out.lt
  have m0 := O1.out.cell 0 rfl
  have m1 := O1.out.cell 1 rfl
  have m2 := O1.out.cell 2 rfl
  clear t1
  go_wp2_with fail
  generalize hw2 : w1.alloc _ = w2
  have O2 := Lib.hid (old_of hw2 O1.out)
  have B2 := Lib.hid (B1.out.none_ (turned_of hw2))
  have T2 := Lib.hid (turned_trans T1.out (turned_of hw2))
  clear hw2 m0 m1 m2 hw1
  refine (long_no s o _ B most w2 B2.out hmb HL.out).mono ?_
  rintro e w3 ⟨rfl, t3⟩
  have O3 := Lib.hid (O2.out.past t3 (by simp))
  have B3 := Lib.hid (B2.out.none_ t3)
  have m0 := O3.out.cell 0 rfl
  have m1 := O3.out.cell 1 rfl
  have m2 := O3.out.cell 2 rfl
  have T3 := Lib.hid (turned_trans T2.out t3)
  clear t3
  have d0 : decide ((65536 : Int) < (B.length : Int)) = false := decide_eq_false (by omega)
  go_wp2_with fail
  refine (HC.out w3 B3.out (H.out.elim .inl (fun h => .inr ⟨h.1, .inl h.2⟩))).mono ?_
  rintro e w4 ⟨rfl, t4⟩
  unfold noCut
  obtain ⟨c, hc, hc2⟩ : ∃ c : Int, (if most < 1 then 1 else 5) = c ∧ (c != 0) = true := by
    by_cases h : most < 1
    · exact ⟨1, if_pos h, rfl⟩
    · exact ⟨5, if_neg h, rfl⟩
  rw [hc]
  have T4 := Lib.hid (turned_trans T3.out t4)
  clear t4 hc m0 m1 m2
  go_wp2_with fail
  refine (works17 _).mono ?_
  rintro e w7 ⟨rfl, t7⟩
  go_wp2
  go_ret
  exact ⟨rfl, turned_below (turned_trans T4.out t7)⟩
set_option maxRecDepth 100000 in
set_option maxHeartbeats 8000000 in
theorem empty_good (W : World) (s : Int) (o : Bool) (bv : Value) (B : List Int) (most : Nat) (at_ : Int) (hB : LiesB W bv B) (hs : 0 ≤ s ∧ s < 65536) (ha : 0 ≤ at_ ∧ at_ < 65536) (hm1 : 1 ≤ most) (hm2 : most ≤ 9223372036854775807) (h0 : 1 ≤ B.length) (hb : B.length ≤ 65536) (hl : ¬ isLong B.length (most : Int)) :
    Calls Try.prog 8 #[.agg #[.int .u16 s, .bool o, bv], .int .i64 (most : Int), .int .u16 at_] W fun e w' => e = .returned (.bool true) ∧ Below W.heap.size W w' := by
  obtain ⟨a, cap, rfl, hc1, hc2⟩ := hB.1.form
  obtain ⟨ha0, ha1⟩ := ha
  have OB := Lib.hid (msgBox W s o (.slice a B.length cap))
  have TB := Lib.hid (turned_alloc (turned_refl W []) (.cells #[.int .u16 s, .bool o, .slice a B.length cap] 25))
  have HB := Lib.hid (hB.none_ TB.out)
  have HL := Lib.hid hl
  clear hB hl
  have d0 : decide ((65536 : Int) < (B.length : Int)) = false := decide_eq_false (by omega)
  go_enter Try.func8, Try.ntmps8
  go_wp2_with fail
  refine (join_nil _).mono ?_
  rintro e w1 ⟨rfl, t1⟩
  unfold noMsg
  have O1 := Lib.hid (OB.out.past t1 (by simp))
  have B1 := Lib.hid (HB.out.none_ t1)
  have T1 := Lib.hid (turned_trans TB.out t1)
  have hw1 := O1.out.lt
  have m0 := O1.out.cell 0 rfl
  have m1 := O1.out.cell 1 rfl
  have m2 := O1.out.cell 2 rfl
  clear t1
  go_wp2_with fail
  generalize hw2 : w1.alloc _ = w2
  have O2 := Lib.hid (old_of hw2 O1.out)
  have P2 := Lib.hid (new_of hw2)
  have B2 := Lib.hid (B1.out.none_ (turned_of hw2))
  have T2 := Lib.hid (turned_trans T1.out (turned_of hw2))
  clear hw2 m0 m1 m2 hw1
  generalize w1.heap.size = b1 at *
  refine (long_no s o _ B most w2 B2.out (by omega) HL.out).mono ?_
  rintro e w3 ⟨rfl, t3⟩
  have O3 := Lib.hid (O2.out.past t3 (by simp))
  have P3 := Lib.hid (P2.out.past t3 (by simp))
  have B3 := Lib.hid (B2.out.none_ t3)
  have m0 := O3.out.cell 0 rfl
  have m1 := O3.out.cell 1 rfl
  have m2 := O3.out.cell 2 rfl
  have T3 := Lib.hid (turned_trans T2.out t3)
  clear t3
  go_wp2_with fail
  refine (fcut_use s o 1 _ B most w3 B3.out h0 (by omega) hm1 hm2 hs (by omega)).mono ?_
  rintro e w4 ⟨g, gc, X, rfl, hgc, hgc2, hmade, hlies, hsh, hX, hwh, hbn, t4⟩
  have hq0 := nP_pos B.length most
  have hq2 := nP_le (most := most) h0
  have hqg := nP_ge h0 hm1
  obtain ⟨q, hq⟩ : ∃ q, nP B.length most = q := ⟨_, rfl⟩
  rw [hq] at hgc hmade hlies hX hq0 hq2 hqg ⊢
  obtain ⟨k, hk⟩ : ∃ k : Nat, at_ % (q : Int) = (k : Int) := ⟨(at_ % (q : Int)).toNat, by have := Int.emod_nonneg at_ (show (q : Int) ≠ 0 by omega); omega⟩
  have hkl : k < q := by have := Int.emod_lt_of_pos at_ (show (0 : Int) < (q : Int) by omega); omega
  have hk' : Int.tmod at_ (q : Int) = (k : Int) := by rw [Int.tmod_eq_emod_of_nonneg ha0]; exact hk
  have hkX : k < X.length := by rw [hX]; exact hkl
  have P4 := Lib.hid (P3.out.past t4 (by simp))
  have HR := Lib.hid ((RowF.made hmade hlies).turn hX.symm k hkX 6 (by omega) (.slice none 0 0) { X[k]'hkX with ba := none, bn := 0, bc := 0 } rfl ⟨(hlies.1.2 _ (List.getElem_mem hkX)).t0, (hlies.1.2 _ (List.getElem_mem hkX)).t1, (hlies.1.2 _ (List.getElem_mem hkX)).s0, (hlies.1.2 _ (List.getElem_mem hkX)).s1, (hlies.1.2 _ (List.getElem_mem hkX)).n0, (hlies.1.2 _ (List.getElem_mem hkX)).n1⟩ [] ⟨Lies.nil _ _, fun x hx => by cases hx⟩ (fun h => absurd h (by simp)))
  have HN := Lib.hid (not_whole_nil k hkX { X[k]'hkX with ba := none, bn := 0, bc := 0 } rfl)
  have HFL := Lib.hid (show (((List.range q).map (bit B most)).set k []).flatten.length ≤ 1048576 from Nat.le_trans (flatten_set_nil _ _) (by rw [bits_flat hqg]; omega))
  have HXL := Lib.hid (show (X.set k { X[k]'hkX with ba := none, bn := 0, bc := 0 }).length ≤ 100000 by rw [List.length_set, hX]; omega)
  have T4 := Lib.hid (turned_trans T3.out t4)
  have TN := Lib.hid (row_lt hmade.1 g rfl)
  have hrow := hmade.1
  rw [hX] at hrow
  have ef := hrow.frozenAt (k * 7 + 6)
  have e6 := (piece_cells hlies.1 k hkX rfl).2.2.2.2.2.2
  have d3 : ((q : Int) == 0) = false := beq_eq_false_iff_ne.2 (by omega)
  have d4 : ¬ (q : Int) = 0 := by omega
  generalize (X.set k { X[k]'hkX with ba := none, bn := 0, bc := 0 }) = Y at HR HN HXL
  generalize (((List.range q).map (bit B most)).set k []) = Cs at HR HFL
  clear hrow hmade hlies hsh hX hwh hbn t4 m0 m1 m2
  go_wp2_with fail
  refine (fjoin_no _ Y Cs _ HR.out.lies HXL.out HFL.out HN.out).mono ?_
  rintro e w5 ⟨rfl, t5⟩
  unfold noMsg
  have T5 := Lib.hid (turned_trans (turned_setNew T4.out (Nat.le_trans T3.out.2.2.2.1 TN.out.1) _) t5)
  clear t5 ef e6
  go_wp2_with fail
  refine (works17 _).mono ?_
  rintro e w7 ⟨rfl, t7⟩
  go_wp2
  go_ret
  exact ⟨rfl, turned_below (turned_trans T5.out (turned_trans (turned_alloc (turned_refl w5 []) _) t7))⟩
theorem fragEmpty.walk (W : World) (v : Value) (x : Int × Bool × List Int) (h : IsMsg W v x) (most : Int) (hm : (Lit.int .i64 most).wf = true) (at_ : Int) (ha : (Lit.int .u16 at_).wf = true) :
    Calls Try.prog 8 #[v, .int .i64 most, .int .u16 at_] W fun e w' => e = .returned (.bool true) ∧ Below W.heap.size W w' := by
  obtain ⟨s, o, B⟩ := x
  obtain ⟨bv, rfl, hB, hs0, hs1⟩ := h
  have hm' := wf_i64_range hm
  simp only at hB hs0 hs1 ⊢
  by_cases hl : isLong B.length most
  · exact empty_long W s o bv B most at_ hB hm' (.inl hl)
  by_cases hb : 65536 < B.length
  · exact empty_long W s o bv B most at_ hB hm' (.inr ⟨hl, hb⟩)
  by_cases h1 : most < 1
  · exact empty_none W s o bv B most at_ hB hm' (.inl h1) hl (by omega)
  by_cases h2 : B.length = 0
  · exact empty_none W s o bv B most at_ hB hm' (.inr ⟨by omega, h2⟩) hl (by omega)
  obtain ⟨p, rfl⟩ : ∃ p : Nat, most = (p : Int) := ⟨most.toNat, by omega⟩
  exact empty_good W s o bv B p at_ hB ⟨hs0, hs1⟩ (wf_u16_range ha) (by omega) (by omega) (by omega) (by omega) hl
end Go.Proofs.Ytcfpgeceenkheaa
