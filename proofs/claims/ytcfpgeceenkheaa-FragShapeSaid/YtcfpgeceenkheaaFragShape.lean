/- The walk of FragShape. No condition. -/
import Derived.Test.YtcfpgeceenkheaaFragWorks
namespace Go.Proofs.Ytcfpgeceenkheaa
open Go.ChangeShapes Go.WideShapes Go.RowKit Go.Deep
set_option linter.unusedVariables false
set_option linter.unusedSimpArgs false

set_option maxRecDepth 100000 in
set_option maxHeartbeats 8000000 in
theorem shape_true (W : World) (s : Int) (bv : Value) (B : List Int) (ssn : Int) (most : Nat) (hB : LiesB W bv B) (hs : 0 ≤ s ∧ s < 65536) (hn : 0 ≤ ssn ∧ ssn < 65536) (hm : 1 ≤ most) (hm2 : most ≤ 9223372036854775807) (h0 : 1 ≤ B.length) (h1 : B.length ≤ 65536) (hlong : ¬ isLong B.length (most : Int)) :
    Calls Try.prog 6 #[.agg #[.int .u16 s, .bool true, bv], .int .u16 ssn, .int .i64 (most : Int)] W fun e w' => e = .returned (.bool true) ∧ Below W.heap.size W w' := by
  obtain ⟨a, cap, rfl, hc1, hc2⟩ := hB.1.form
  obtain ⟨b, off, rfl, hbW, _⟩ := hB.cell 0 (by omega)
  have OB := Lib.hid (msgBox W s true (.slice (some ⟨b, off, none⟩) B.length cap))
  have TB := Lib.hid (turned_alloc (turned_refl W []) (.cells #[.int .u16 s, .bool true, .slice (some ⟨b, off, none⟩) B.length cap] 25))
  have HB := Lib.hid (hB.none_ TB.out)
  have HL := Lib.hid hlong
  clear hlong hB
  have d0 : decide ((65536 : Int) < (B.length : Int)) = false := decide_eq_false (by omega)
  have d1 : ((B.length : Int) == 0) = false := beq_eq_false_iff_ne.2 (by omega)
  have d2 : decide ((most : Int) < 1) = false := decide_eq_false (by omega)
  go_enter Try.func6, Try.ntmps6
  go_wp2_with fail
  generalize (W.alloc (.cells #[.int .u16 s, .bool true, .slice (some ⟨b, off, none⟩) B.length cap] 25)) = w1 at OB TB HB ⊢
  refine (long_no s true _ B (most : Int) w1 HB.out (by omega) HL.out).mono ?_
  rintro e w2 ⟨rfl, t2⟩
  have O2 := Lib.hid (OB.out.past t2 (by simp))
  have B2 := Lib.hid (HB.out.none_ t2)
  have T2 := Lib.hid (turned_trans TB.out t2)
  have m0 := O2.out.cell 0 rfl
  have m1 := O2.out.cell 1 rfl
  have m2 := O2.out.cell 2 rfl
  clear t2
  go_wp2_with fail
  refine (fcut_use s true ssn _ B most w2 B2.out h0 (by omega) hm hm2 hs hn).mono ?_
  rintro e w3 ⟨g, gc, X, rfl, hgc, hgc2, hmade, hlies, hsh, hl, hwh, hbn, t3⟩
  simp only [cond_true, cond_false, Bool.not_true, Bool.not_false] at hsh
  obtain ⟨q, hq⟩ : ∃ q, nP B.length most = q := ⟨_, rfl⟩
  have hq0 := nP_pos B.length most
  have hq2 := nP_le (most := most) h0
  rw [hq] at hgc hmade hlies hl hq0 hq2 ⊢
  have HQ := Lib.hid hq
  have HM := Lib.hid hlies
  have HSH := Lib.hid hsh
  have HLX := Lib.hid hl
  have HBN := Lib.hid hbn
  have O3 := Lib.hid (O2.out.past t3 (by simp))
  have B3 := Lib.hid (B2.out.none_ t3)
  have T3 := Lib.hid (turned_trans T2.out t3)
  clear hq hmade hlies hsh hl hwh hbn t3 m0 m1 m2
  have m0 := O3.out.cell 0 rfl
  have m1 := O3.out.cell 1 rfl
  have m2 := O3.out.cell 2 rfl
  have d3 : ((q : Int) == 0) = false := beq_eq_false_iff_ne.2 (by omega)
  go_wp2
  go_loopw [10, 11] (fun at_ i wr => ∃ j : Nat, j ≤ q ∧ at_ = .int .i64 ((min (j * most) B.length : Nat) : Int) ∧ i = .int .i64 (j : Int) ∧ turned w3 wr []) (fun _ i _ => q - (intOf i).toNat)
  case atStart => exact ⟨0, Nat.zero_le _, by simp, rfl, turned_refl _ _⟩
  case round =>
    clear m0 m1 m2
    obtain ⟨j, hj, rfl, rfl, ht⟩ := hrel
    have HT := Lib.hid ht
    clear ht
    have m0 := (O3.out.past HT.out (by simp)).cell 0 rfl
    have m1 := (O3.out.past HT.out (by simp)).cell 1 rfl
    have m2 := (O3.out.past HT.out (by simp)).cell 2 rfl
    have hwl := (O3.out.past HT.out (by simp)).lt
    by_cases hlt : j < q
    · obtain ⟨y1, y2, y3, y4, y5, y6⟩ := next_at h0 hm (show j < nP B.length most by rw [HQ.out]; exact hlt)
      have hjX : j < X.length := by rw [HLX.out]; exact hlt
      have hL := HM.out.none_ HT.out
      have hby := hL.2.2 j hjX (by simp; exact hlt)
      rw [bits_at] at hby
      have hbn := (HBN.out j hjX).1
      obtain ⟨x, hx⟩ : ∃ x, X[j]'hjX = x := ⟨_, rfl⟩
      obtain ⟨c0, c1, c2, c3, c4, c5, c6⟩ := piece_cells hL.1 j hjX hx
      obtain ⟨f0, f1, f2, f3, f4, f5⟩ := shape_at HSH.out j hjX hx
      rw [hx] at hby hbn
      rw [HLX.out] at f5
      rw [f0] at c0; rw [f1] at c1; rw [f2] at c2; rw [f3] at c3; rw [f4] at c4; rw [f5] at c5
      clear f0 f1 f2 f3 f4 f5 hL hx
      rw [y1]
      rw [HQ.out] at y6
      have hbit : bit B most j = (B.drop (j * most)).take (pieceLen B.length most j) := by
        unfold bit
        rw [show pieceLen B.length most j = min most (B.length - j * most) from rfl]
        rcases Nat.le_total most (B.length - j * most) with g' | g'
        · rw [Nat.min_eq_left g']
        · rw [Nat.min_eq_right g', List.take_of_length_le (by simp; omega), List.take_of_length_le (by simp)]
      rw [hbit] at hby
      clear hbit y1
      rw [hbn] at c6 hby
      clear hbn
      generalize x.ba = ba at c6 hby
      generalize x.bc = bc at c6 hby
      have HY5 := Lib.hid y5
      clear y5
      generalize pieceLen B.length most j = n at *
      generalize j * most = sm at *
      have HBY := Lib.hid hby
      clear hby
      have HSUB := Lib.hid (liesB_sub (B3.out.none_ HT.out) sm n (cap - sm) y4 (by omega) (by omega) (some ⟨b, off + sm, none⟩) (fun b' off' e => by cases e; rfl))
      go_wp2_with (fail)
      generalize hw6 : wr.alloc _ = w6
      have ox := new_of hw6
      have om := old_of hw6 (O3.out.past HT.out (by simp))
      have t6 := turned_of hw6
      clear hw6 c0 c1 c2 c3 c4 c5 c6 m0 m1 m2
      have r6 := ox.cell 6 rfl
      have m2 := om.cell 2 rfl
      have HBY6 := Lib.hid (HBY.out.none_ t6)
      have HSUB6 := Lib.hid (HSUB.out.none_ t6)
      have T6 := Lib.hid (turned_trans HT.out t6)
      clear ox om t6
      have k0 : B.length ≤ 4000000 := by omega
      have k1 : decide ((n : Int) < 1) = false := decide_eq_false (by omega)
      have k2 : decide ((most : Int) < (n : Int)) = false := decide_eq_false (by omega)
      have s0 : IntKind.i64.wrap ((q : Int) - 1) = (q : Int) - 1 := IntWalk.i64_in _ (by omega)
      have s1 : IntKind.i64.wrap ((sm : Int) + (n : Int)) = (sm : Int) + (n : Int) := IntWalk.i64_in _ (by omega)
      have s2 : ((sm : Int) + (n : Int)).toNat = sm + n := by omega
      have s3 : 0 ≤ (sm : Int) + (n : Int) := by omega
      have s4 : (sm : Int) + (n : Int) ≤ (cap : Int) := by omega
      have s5 : 0 ≤ (n : Int) := by omega
      have s6 : ¬ cap = sm := by omega
      have s7 : sm + n - sm = n := by omega
      have k5 : decide ((B.length : Int) < (sm : Int) + (n : Int)) = false := decide_eq_false (by omega)
      have hAl : ((B.drop sm).take n).length ≤ 4000000 := by simp; omega
      have HAL := Lib.hid hAl
      clear hAl
      by_cases hlast : j + 1 < q
      · have hnm := y6 hlast
        have k3 : decide ((j : Int) < (q : Int) - 1) = true := decide_eq_true (by omega)
        have k4 : ((n : Int) != (most : Int)) = false := by rw [hnm]; simp
        have HNM := Lib.hid hnm
        clear hnm y6
        go_quiet ((go_at_call 23; exact Calls.quiet_of (eqb_yes _ _ _ _ (HBY6.out.none_ (turned_drewN _ _ [])) (HSUB6.out.none_ (turned_drewN _ _ [])) HAL.out)))
        clear k1 k2 k3 s0 s1 s2 s3 s4 s6 s7 k5
        go_wp2_with (fail)
        go_roundw
        case rel => exact ⟨j + 1, by omega, by rw [HY5.out]; go_num, by go_num, turned_drewN' _ T6.out⟩
        case measure => simp only [intOf]; omega
      · have k3 : decide ((j : Int) < (q : Int) - 1) = false := decide_eq_false (by omega)
        clear y6
        go_quiet ((go_at_call 23; exact Calls.quiet_of (eqb_yes _ _ _ _ (HBY6.out.none_ (turned_drewN _ _ [])) (HSUB6.out.none_ (turned_drewN _ _ [])) HAL.out)))
        clear k1 k2 k3 s0 s1 s2 s3 s4 s6 s7 k5
        go_wp2_with (fail)
        go_roundw
        case rel => exact ⟨j + 1, by omega, by rw [HY5.out]; go_num, by go_num, turned_drewN' _ T6.out⟩
        case measure => simp only [intOf]; omega
    · obtain rfl : j = q := by omega
      have he : min (j * most) B.length = B.length := by
        have := nP_ge h0 hm
        rw [HQ.out] at this
        omega
      rw [he]
      clear he
      go_wp2_with (fail)
      refine (works17 _).mono ?_
      rintro e w7 ⟨rfl, t7⟩
      go_wp2
      go_ret
      exact ⟨rfl, turned_below (turned_trans T3.out (turned_trans HT.out t7))⟩
set_option maxRecDepth 100000 in
set_option maxHeartbeats 8000000 in
theorem shape_false (W : World) (s : Int) (bv : Value) (B : List Int) (ssn : Int) (most : Nat) (hB : LiesB W bv B) (hs : 0 ≤ s ∧ s < 65536) (hn : 0 ≤ ssn ∧ ssn < 65536) (hm : 1 ≤ most) (hm2 : most ≤ 9223372036854775807) (h0 : 1 ≤ B.length) (h1 : B.length ≤ 65536) (hlong : ¬ isLong B.length (most : Int)) :
    Calls Try.prog 6 #[.agg #[.int .u16 s, .bool false, bv], .int .u16 ssn, .int .i64 (most : Int)] W fun e w' => e = .returned (.bool true) ∧ Below W.heap.size W w' := by
  obtain ⟨a, cap, rfl, hc1, hc2⟩ := hB.1.form
  obtain ⟨b, off, rfl, hbW, _⟩ := hB.cell 0 (by omega)
  have OB := Lib.hid (msgBox W s false (.slice (some ⟨b, off, none⟩) B.length cap))
  have TB := Lib.hid (turned_alloc (turned_refl W []) (.cells #[.int .u16 s, .bool false, .slice (some ⟨b, off, none⟩) B.length cap] 25))
  have HB := Lib.hid (hB.none_ TB.out)
  have HL := Lib.hid hlong
  clear hlong hB
  have d0 : decide ((65536 : Int) < (B.length : Int)) = false := decide_eq_false (by omega)
  have d1 : ((B.length : Int) == 0) = false := beq_eq_false_iff_ne.2 (by omega)
  have d2 : decide ((most : Int) < 1) = false := decide_eq_false (by omega)
  go_enter Try.func6, Try.ntmps6
  go_wp2_with fail
  generalize (W.alloc (.cells #[.int .u16 s, .bool false, .slice (some ⟨b, off, none⟩) B.length cap] 25)) = w1 at OB TB HB ⊢
  refine (long_no s false _ B (most : Int) w1 HB.out (by omega) HL.out).mono ?_
  rintro e w2 ⟨rfl, t2⟩
  have O2 := Lib.hid (OB.out.past t2 (by simp))
  have B2 := Lib.hid (HB.out.none_ t2)
  have T2 := Lib.hid (turned_trans TB.out t2)
  have m0 := O2.out.cell 0 rfl
  have m1 := O2.out.cell 1 rfl
  have m2 := O2.out.cell 2 rfl
  clear t2
  go_wp2_with fail
  refine (fcut_use s false ssn _ B most w2 B2.out h0 (by omega) hm hm2 hs hn).mono ?_
  rintro e w3 ⟨g, gc, X, rfl, hgc, hgc2, hmade, hlies, hsh, hl, hwh, hbn, t3⟩
  simp only [cond_true, cond_false, Bool.not_true, Bool.not_false] at hsh
  obtain ⟨q, hq⟩ : ∃ q, nP B.length most = q := ⟨_, rfl⟩
  have hq0 := nP_pos B.length most
  have hq2 := nP_le (most := most) h0
  rw [hq] at hgc hmade hlies hl hq0 hq2 ⊢
  have HQ := Lib.hid hq
  have HM := Lib.hid hlies
  have HSH := Lib.hid hsh
  have HLX := Lib.hid hl
  have HBN := Lib.hid hbn
  have O3 := Lib.hid (O2.out.past t3 (by simp))
  have B3 := Lib.hid (B2.out.none_ t3)
  have T3 := Lib.hid (turned_trans T2.out t3)
  clear hq hmade hlies hsh hl hwh hbn t3 m0 m1 m2
  have m0 := O3.out.cell 0 rfl
  have m1 := O3.out.cell 1 rfl
  have m2 := O3.out.cell 2 rfl
  have d3 : ((q : Int) == 0) = false := beq_eq_false_iff_ne.2 (by omega)
  go_wp2
  go_loopw [10, 11] (fun at_ i wr => ∃ j : Nat, j ≤ q ∧ at_ = .int .i64 ((min (j * most) B.length : Nat) : Int) ∧ i = .int .i64 (j : Int) ∧ turned w3 wr []) (fun _ i _ => q - (intOf i).toNat)
  case atStart => exact ⟨0, Nat.zero_le _, by simp, rfl, turned_refl _ _⟩
  case round =>
    clear m0 m1 m2
    obtain ⟨j, hj, rfl, rfl, ht⟩ := hrel
    have HT := Lib.hid ht
    clear ht
    have m0 := (O3.out.past HT.out (by simp)).cell 0 rfl
    have m1 := (O3.out.past HT.out (by simp)).cell 1 rfl
    have m2 := (O3.out.past HT.out (by simp)).cell 2 rfl
    have hwl := (O3.out.past HT.out (by simp)).lt
    by_cases hlt : j < q
    · obtain ⟨y1, y2, y3, y4, y5, y6⟩ := next_at h0 hm (show j < nP B.length most by rw [HQ.out]; exact hlt)
      have hjX : j < X.length := by rw [HLX.out]; exact hlt
      have hL := HM.out.none_ HT.out
      have hby := hL.2.2 j hjX (by simp; exact hlt)
      rw [bits_at] at hby
      have hbn := (HBN.out j hjX).1
      obtain ⟨x, hx⟩ : ∃ x, X[j]'hjX = x := ⟨_, rfl⟩
      obtain ⟨c0, c1, c2, c3, c4, c5, c6⟩ := piece_cells hL.1 j hjX hx
      obtain ⟨f0, f1, f2, f3, f4, f5⟩ := shape_at HSH.out j hjX hx
      rw [hx] at hby hbn
      rw [HLX.out] at f5
      rw [f0] at c0; rw [f1] at c1; rw [f2] at c2; rw [f3] at c3; rw [f4] at c4; rw [f5] at c5
      clear f0 f1 f2 f3 f4 f5 hL hx
      rw [y1]
      rw [HQ.out] at y6
      have hbit : bit B most j = (B.drop (j * most)).take (pieceLen B.length most j) := by
        unfold bit
        rw [show pieceLen B.length most j = min most (B.length - j * most) from rfl]
        rcases Nat.le_total most (B.length - j * most) with g' | g'
        · rw [Nat.min_eq_left g']
        · rw [Nat.min_eq_right g', List.take_of_length_le (by simp; omega), List.take_of_length_le (by simp)]
      rw [hbit] at hby
      clear hbit y1
      rw [hbn] at c6 hby
      clear hbn
      generalize x.ba = ba at c6 hby
      generalize x.bc = bc at c6 hby
      have HY5 := Lib.hid y5
      clear y5
      generalize pieceLen B.length most j = n at *
      generalize j * most = sm at *
      have HBY := Lib.hid hby
      clear hby
      have HSUB := Lib.hid (liesB_sub (B3.out.none_ HT.out) sm n (cap - sm) y4 (by omega) (by omega) (some ⟨b, off + sm, none⟩) (fun b' off' e => by cases e; rfl))
      go_wp2_with (fail)
      generalize hw6 : wr.alloc _ = w6
      have ox := new_of hw6
      have om := old_of hw6 (O3.out.past HT.out (by simp))
      have t6 := turned_of hw6
      clear hw6 c0 c1 c2 c3 c4 c5 c6 m0 m1 m2
      have r6 := ox.cell 6 rfl
      have m2 := om.cell 2 rfl
      have HBY6 := Lib.hid (HBY.out.none_ t6)
      have HSUB6 := Lib.hid (HSUB.out.none_ t6)
      have T6 := Lib.hid (turned_trans HT.out t6)
      clear ox om t6
      have k0 : B.length ≤ 4000000 := by omega
      have k1 : decide ((n : Int) < 1) = false := decide_eq_false (by omega)
      have k2 : decide ((most : Int) < (n : Int)) = false := decide_eq_false (by omega)
      have s0 : IntKind.i64.wrap ((q : Int) - 1) = (q : Int) - 1 := IntWalk.i64_in _ (by omega)
      have s1 : IntKind.i64.wrap ((sm : Int) + (n : Int)) = (sm : Int) + (n : Int) := IntWalk.i64_in _ (by omega)
      have s2 : ((sm : Int) + (n : Int)).toNat = sm + n := by omega
      have s3 : 0 ≤ (sm : Int) + (n : Int) := by omega
      have s4 : (sm : Int) + (n : Int) ≤ (cap : Int) := by omega
      have s5 : 0 ≤ (n : Int) := by omega
      have s6 : ¬ cap = sm := by omega
      have s7 : sm + n - sm = n := by omega
      have k5 : decide ((B.length : Int) < (sm : Int) + (n : Int)) = false := decide_eq_false (by omega)
      have hAl : ((B.drop sm).take n).length ≤ 4000000 := by simp; omega
      have HAL := Lib.hid hAl
      clear hAl
      by_cases hlast : j + 1 < q
      · have hnm := y6 hlast
        have k3 : decide ((j : Int) < (q : Int) - 1) = true := decide_eq_true (by omega)
        have k4 : ((n : Int) != (most : Int)) = false := by rw [hnm]; simp
        have HNM := Lib.hid hnm
        clear hnm y6
        go_quiet ((go_at_call 23; exact Calls.quiet_of (eqb_yes _ _ _ _ (HBY6.out.none_ (turned_drewN _ _ [])) (HSUB6.out.none_ (turned_drewN _ _ [])) HAL.out)))
        clear k1 k2 k3 s0 s1 s2 s3 s4 s6 s7 k5
        go_wp2_with (fail)
        go_roundw
        case rel => exact ⟨j + 1, by omega, by rw [HY5.out]; go_num, by go_num, turned_drewN' _ T6.out⟩
        case measure => simp only [intOf]; omega
      · have k3 : decide ((j : Int) < (q : Int) - 1) = false := decide_eq_false (by omega)
        clear y6
        go_quiet ((go_at_call 23; exact Calls.quiet_of (eqb_yes _ _ _ _ (HBY6.out.none_ (turned_drewN _ _ [])) (HSUB6.out.none_ (turned_drewN _ _ [])) HAL.out)))
        clear k1 k2 k3 s0 s1 s2 s3 s4 s6 s7 k5
        go_wp2_with (fail)
        go_roundw
        case rel => exact ⟨j + 1, by omega, by rw [HY5.out]; go_num, by go_num, turned_drewN' _ T6.out⟩
        case measure => simp only [intOf]; omega
    · obtain rfl : j = q := by omega
      have he : min (j * most) B.length = B.length := by
        have := nP_ge h0 hm
        rw [HQ.out] at this
        omega
      rw [he]
      clear he
      go_wp2_with (fail)
      refine (works17 _).mono ?_
      rintro e w7 ⟨rfl, t7⟩
      go_wp2
      go_ret
      exact ⟨rfl, turned_below (turned_trans T3.out (turned_trans HT.out t7))⟩
set_option maxRecDepth 100000 in
set_option maxHeartbeats 8000000 in
theorem shape_none (W : World) (s : Int) (o : Bool) (bv : Value) (B : List Int) (ssn most : Int) (hB : LiesB W bv B) (hmb : -9223372036854775808 ≤ most ∧ most ≤ 9223372036854775807) (h : most < 1 ∨ (1 ≤ most ∧ B.length = 0)) (hlong : ¬ isLong B.length most) (h1 : B.length ≤ 65536) :
    Calls Try.prog 6 #[.agg #[.int .u16 s, .bool o, bv], .int .u16 ssn, .int .i64 most] W fun e w' => e = .returned (.bool true) ∧ Below W.heap.size W w' := by
  obtain ⟨a, cap, rfl, hc1, hc2⟩ := hB.1.form
  have OB := Lib.hid (msgBox W s o (.slice a B.length cap))
  have TB := Lib.hid (turned_alloc (turned_refl W []) (.cells #[.int .u16 s, .bool o, .slice a B.length cap] 25))
  have HB := Lib.hid (hB.none_ TB.out)
  have HL := Lib.hid hlong
  have hc := fun w => fcut_none s o ssn (.slice a B.length cap) B most w
  have HC := Lib.hid hc
  have H := Lib.hid h
  clear hlong hB hc
  have d0 : decide ((65536 : Int) < (B.length : Int)) = false := decide_eq_false (by omega)
  go_enter Try.func6, Try.ntmps6
  go_wp2_with fail
  generalize (W.alloc (.cells #[.int .u16 s, .bool o, .slice a B.length cap] 25)) = w1 at OB TB HB ⊢
  refine (long_no s o _ B most w1 HB.out hmb HL.out).mono ?_
  rintro e w2 ⟨rfl, t2⟩
  have O2 := Lib.hid (OB.out.past t2 (by simp))
  have B2 := Lib.hid (HB.out.none_ t2)
  have T2 := Lib.hid (turned_trans TB.out t2)
  have m0 := O2.out.cell 0 rfl
  have m1 := O2.out.cell 1 rfl
  have m2 := O2.out.cell 2 rfl
  clear t2
  go_wp2_with fail
  refine (HC.out w2 B2.out (by rcases h with h | ⟨h, h'⟩; exact .inl h; exact .inr ⟨h, .inl h'⟩)).mono ?_
  rintro e w3 ⟨rfl, t3⟩
  unfold noCut
  have O3 := Lib.hid (O2.out.past t3 (by simp))
  have T3 := Lib.hid (turned_trans T2.out t3)
  clear t3 m0 m1 m2
  have m0 := O3.out.cell 0 rfl
  have m1 := O3.out.cell 1 rfl
  have m2 := O3.out.cell 2 rfl
  rcases h with h | ⟨h, h'⟩
  · rw [if_pos h]
    have d1 : decide (most < 1) = true := decide_eq_true h
    have d2 : decide ((1 : Int) ≤ most) = false := decide_eq_false (by omega)
    go_wp2_with fail
    refine (works17 _).mono ?_
    rintro e w7 ⟨rfl, t7⟩
    go_wp2
    go_ret
    exact ⟨rfl, turned_below (turned_trans T3.out t7)⟩
  · rw [if_neg (by omega)]
    have d1 : decide (most < 1) = false := decide_eq_false (by omega)
    have d2 : decide ((1 : Int) ≤ most) = true := decide_eq_true h
    have d3 : ((B.length : Int) == 0) = true := beq_iff_eq.2 (by omega)
    go_wp2_with fail
    refine (works17 _).mono ?_
    rintro e w7 ⟨rfl, t7⟩
    go_wp2
    go_ret
    exact ⟨rfl, turned_below (turned_trans T3.out t7)⟩
set_option maxRecDepth 100000 in
set_option maxHeartbeats 8000000 in
theorem shape_long (W : World) (s : Int) (o : Bool) (bv : Value) (B : List Int) (ssn most : Int) (hB : LiesB W bv B) (hmb : -9223372036854775808 ≤ most ∧ most ≤ 9223372036854775807) (h : isLong B.length most ∨ (¬ isLong B.length most ∧ 65536 < B.length)) :
    Calls Try.prog 6 #[.agg #[.int .u16 s, .bool o, bv], .int .u16 ssn, .int .i64 most] W fun e w' => e = .returned (.bool true) ∧ Below W.heap.size W w' := by
  obtain ⟨a, cap, rfl, hc1, hc2⟩ := hB.1.form
  have OB := Lib.hid (msgBox W s o (.slice a B.length cap))
  have TB := Lib.hid (turned_alloc (turned_refl W []) (.cells #[.int .u16 s, .bool o, .slice a B.length cap] 25))
  have HB := Lib.hid (hB.none_ TB.out)
  clear hB
  go_enter Try.func6, Try.ntmps6
  go_wp2_with fail
  generalize (W.alloc (.cells #[.int .u16 s, .bool o, .slice a B.length cap] 25)) = w1 at OB TB HB ⊢
  rcases h with h | ⟨h, h'⟩
  · refine (long_yes s o _ B most w1 HB.out hmb h).mono ?_
    rintro e w2 ⟨rfl, t2⟩
    go_wp2_with fail
    refine (works17 _).mono ?_
    rintro e w7 ⟨rfl, t7⟩
    go_wp2
    go_ret
    exact ⟨rfl, turned_below (turned_trans TB.out (turned_trans t2 t7))⟩
  · refine (long_no s o _ B most w1 HB.out hmb h).mono ?_
    rintro e w2 ⟨rfl, t2⟩
    have m2 := (OB.out.past t2 (by simp)).cell 2 rfl
    have T2 := Lib.hid t2
    clear t2
    have d0 : decide ((65536 : Int) < (B.length : Int)) = true := decide_eq_true (by omega)
    go_wp2_with fail
    refine (works17 _).mono ?_
    rintro e w7 ⟨rfl, t7⟩
    go_wp2
    go_ret
    exact ⟨rfl, turned_below (turned_trans TB.out (turned_trans T2.out t7))⟩
theorem fragShape.walk (W : World) (v : Value) (x : Int × Bool × List Int) (h : IsMsg W v x) (ssn : Int) (hn : (Lit.int .u16 ssn).wf = true) (most : Int) (hm : (Lit.int .i64 most).wf = true) :
    Calls Try.prog 6 #[v, .int .u16 ssn, .int .i64 most] W fun e w' => e = .returned (.bool true) ∧ Below W.heap.size W w' := by
  obtain ⟨s, o, B⟩ := x
  obtain ⟨bv, rfl, hB, hs0, hs1⟩ := h
  have hm' := wf_i64_range hm
  simp only at hB hs0 hs1 ⊢
  by_cases hl : isLong B.length most
  · exact shape_long W s o bv B ssn most hB hm' (.inl hl)
  by_cases hb : 65536 < B.length
  · exact shape_long W s o bv B ssn most hB hm' (.inr ⟨hl, hb⟩)
  by_cases h1 : most < 1
  · exact shape_none W s o bv B ssn most hB hm' (.inl h1) hl (by omega)
  by_cases h2 : B.length = 0
  · exact shape_none W s o bv B ssn most hB hm' (.inr ⟨by omega, h2⟩) hl (by omega)
  obtain ⟨p, rfl⟩ : ∃ p : Nat, most = (p : Int) := ⟨most.toNat, by omega⟩
  cases o
  · exact shape_false W s bv B ssn p hB ⟨hs0, hs1⟩ (wf_u16_range hn) (by omega) (by omega) (by omega) (by omega) hl
  · exact shape_true W s bv B ssn p hB ⟨hs0, hs1⟩ (wf_u16_range hn) (by omega) (by omega) (by omega) (by omega) hl
end Go.Proofs.Ytcfpgeceenkheaa
