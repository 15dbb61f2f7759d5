/- The walk of OutqExpires. No condition. -/
import Derived.Test.YtibnjakiagcopaaOutqExpP
namespace Go.Proofs.Ytibnjakiagcopaa
open Go.RowKit Go.Deep
set_option linter.unusedVariables false
set_option linter.unusedSimpArgs false

/-- The first round: i messages are in, the wanted ones noted. -/
def EIn (W : World) (g : Nat) (U : List Int) (now : Int) (i : Nat) (wv : Value) (wr : World) : Prop :=
  ∃ F, Own W wr g F (EQ U i) ∧ wr.ownsRow W.heap.size 5 1 wv (wantL U now i).length (flat cB (wantL U now i)) ∧ ∀ q, wv.ownBlock = some q → q ∉ F
def EOut (W : World) (g : Nat) (U : List Int) (now : Int) (wv : Value) (i : Nat) (wr : World) : Prop :=
  ∃ F, Own W wr g F (EY U U.length (EK U now U.length) i) ∧ wr.ownsRow W.heap.size 5 1 wv (wantL U now U.length).length (flat cB (wantL U now U.length)) ∧ ∀ q, wv.ownBlock = some q → q ∉ F
set_option maxRecDepth 100000 in
set_option maxHeartbeats 4000000 in
theorem outqExpires.walk (W : World) (v : Value) (U : List Int) (hv : LiesB W v U) (no : Int) (wn : (Lit.int .u8 no).wf = true) :
    Calls Try.prog 7 #[v, .int .u8 no] W fun e w' => e = .returned (.bool true) ∧ Below W.heap.size W w' := by
  have hno := bounds_u8 wn
  clear wn
  obtain ⟨a, cap, rfl, hc1, hc2⟩ := hv.1.form
  have v4 : IntKind.i64.wrap no = no := IntWalk.i64_in _ (by omega)
  by_cases hbig : 60 < U.length
  · have d0 : decide ((60 : Int) < (U.length : Int)) = true := decide_eq_true (by omega)
    clear hv
    generalize U.length = n at *
    go_enter Try.func7, Try.ntmps7
    go_wp2_with fail
    refine (works20 _).mono ?_
    rintro e w1 ⟨rfl, tt⟩
    go_wp2_with fail
    go_ret
    exact ⟨rfl, below_turned (Below.refl _ _) tt (by simp)⟩
  have hU := hv.2
  have d0 : decide ((60 : Int) < (U.length : Int)) = false := decide_eq_false (by omega)
  obtain ⟨n, hn⟩ : ∃ n, U.length = n := ⟨_, rfl⟩
  have hn60 : n ≤ 60 := by omega
  rw [hn] at hc1 d0
  have HV := Lib.hid hv
  have HN := Lib.hid hn
  have HU := Lib.hid hU
  have hnew := fun w => (onew 1 1000 (by omega) (by omega) w : Calls Try.prog 9 #[.int .i64 1, .int .i64 1000] w _)
  rw [show (Value.slice a U.length cap) = .slice a n cap by rw [hn]]
  clear hv hn hU hbig
  go_enter Try.func7, Try.ntmps7
  go_wp2_with fail
  refine (hnew _).mono ?_
  rintro e w1 ⟨g, F1, rfl, h1, f1, t1⟩
  have H1 := Lib.hid (show EIn W g U no 0 (.slice none 0 0) w1 from ⟨F1, ⟨h1, f1, t1⟩, World.ownsRow_nil _ _ _ _, by simp [Value.ownBlock]⟩)
  clear h1 f1 t1 hnew
  go_wp2_with fail
  obtain ⟨i0, hi0, hz0, hz1, hz2⟩ := info_parts infoB
  go_loopw [7, 8] (fun wv iv wr => ∃ i : Nat, i ≤ n ∧ iv = .int .i64 (i : Int) ∧ EIn W g U no i wv wr) (fun _ iv _ => n - (intOf iv).toNat)
  case atStart => exact ⟨0, Nat.zero_le _, rfl, H1.out⟩
  case round =>
    obtain ⟨i, hi, rfl, F, ho, hr, hq⟩ := hrel
    have HO := Lib.hid ho
    have HR := Lib.hid hr
    have HQ := Lib.hid hq
    clear ho hr hq
    obtain ⟨wa, wc, rfl, hwc1, hwc2, _⟩ := row_form HR.out
    by_cases hlt : i < n
    · have hi' : i < U.length := by rw [HN.out]; exact hlt
      obtain ⟨ui, hui⟩ : ∃ ui, U.getD i 0 = ui := ⟨_, rfl⟩
      have hui2 : U[i]'hi' = ui := by rw [← hui]; simp [hi']
      have hur : 0 ≤ ui ∧ ui < 256 := hui2 ▸ HU.out _ (List.getElem_mem hi')
      have tb := turned_alloc (turned_refl wr []) (.cells #[.int .u8 (i : Int)] 5)
      obtain ⟨b, off, ha, _, hc⟩ := (HV.out.none_ (turned_trans HO.out.2.2 tb)).cell i hi'
      rw [hui2] at hc
      subst ha
      have hL := lit_lies wr [(i : Int)] (0, 0) (by intro x hx; simp at hx; omega) (Nat.le_trans (Nat.le_refl 1) (by omega))
      have hL2 : LiesB (wr.alloc (.cells #[.int .u8 (i : Int)] 5)) (.slice (some ⟨wr.heap.size, 0, none⟩) 1 1) [(i : Int)] := hL
      have s1 : IntKind.u8.wrap (i : Int) = (i : Int) := by simp [IntKind.wrap, IntKind.signed, IntKind.bits]; omega
      have s2 : IntKind.i64.wrap ui = ui := IntWalk.i64_in _ (by omega)
      have HL := Lib.hid hL2
      have TB := Lib.hid tb
      have HUI := Lib.hid hui
      have HUI2 := Lib.hid hui2
      have HC := Lib.hid (HV.out.none_ (HO.out.2.2))
      clear hL hL2 tb hui hui2 d0
      go_wp2_with fail
      refine (oput_own g F (EQ U i) (EQ U (i + 1)) i 0 true _ [(i : Int)] ui W _ (HO.out.past TB.out) (EQ_ok U HU.out (by rw [HN.out]; exact hn60) i (by rw [HN.out]; exact hi)) (by omega) HL.out (by show 1 ≤ _; omega) (by omega) (by omega) (by simp [QS.err, EQ]; omega) (by rw [← HUI.out]; exact EQ_put U i hi') (i : Int) rfl).mono ?_
      rintro e w2 ⟨rfl, F2, hh, gg, tt⟩
      have hr2 : w2.ownsRow W.heap.size 5 1 _ _ _ := row_past (row_past HR.out TB.out (by simp)) tt HQ.out
      have hq2 : ∀ q, (Value.slice wa (wantL U no i).length wc).ownBlock = some q → q ∉ F2 := fun q hq e => by
        rcases gg q e with h | h
        · exact HQ.out q hq h
        · have h1 := (row_lt0 HR.out q hq).2
          have h2 := TB.out.2.2.2.1
          omega
      have H2 := Lib.hid hh
      have R2 := Lib.hid hr2
      have Q2 := Lib.hid hq2
      have t12 : turned W w2 [] := hh.2.2
      obtain ⟨b2, off2, ha2, _, hc2'⟩ := (HV.out.none_ t12).cell i hi'
      cases ha2
      rw [HUI2.out] at hc2'
      have kn := keeps_iff U no i (by rw [HUI.out]; exact hur.1)
      rw [HUI.out] at kn
      have KN := Lib.hid kn
      have EN := Lib.hid (EK_next U no i)
      clear hh gg tt hr2 hq2 t12 hc kn
      have tb2 := turned_alloc (turned_refl w2 []) (.cells #[.int .u8 (i : Int)] 5)
      have TB2 := Lib.hid tb2
      have hL := lit_lies w2 [(i : Int)] (0, 0) (by intro x hx; simp at hx; omega) (Nat.le_trans (Nat.le_refl 1) (by omega))
      have hL2 : LiesB (w2.alloc (.cells #[.int .u8 (i : Int)] 5)) (.slice (some ⟨w2.heap.size, 0, none⟩) 1 1) [(i : Int)] := hL
      have HL2 := Lib.hid hL2
      clear tb2 hL hL2
      have hwl : (wantL U no i).length ≤ 60 := by unfold wantL; rw [List.length_map]; exact Nat.le_trans (EK_len U no i) (by omega)
      by_cases hk : keeps U no i = true
      · have ew : wantL U no (i + 1) = wantL U no i ++ [(i : Int)] := by unfold wantL; rw [EN.out, if_pos hk, List.map_append]; rfl
        have EW := Lib.hid ew
        have hor : (ui == 0) = true ∨ ((ui == 0) = false ∧ decide (no < ui) = true) := by
          have := KN.out
          rw [hk] at this
          by_cases h0 : ui = 0
          · exact .inl (by simp [h0])
          · refine .inr ⟨beq_eq_false_iff_ne.2 h0, ?_⟩
            rw [decide_eq_false h0, Bool.false_or] at this
            exact this.symm
        clear ew
        rcases hor with g1 | ⟨g1, g2⟩
        all_goals
          go_wp2_with (first | (at_builtin; refine wpList_append_lies' _ rfl _ _ 29 rfl W.heap.size 5 i0 (.int .u8 0) 1 1 Try.underlying29 hi0 hz0 hz1 hz2 rfl (by decide) (.slice wa (wantL U no i).length wc) (wantL U no i).length _ rfl (row_past R2.out TB2.out (by simp)) _ 1 (flat cB [(i : Int)]) rfl HL2.out.1 (flat_one cB_one _) (by unfold maxLen; omega) (by omega) (by have h1 := H2.out.2.2.2.2.2.1; have h2 := TB2.out.2.2.2.1; omega) ?_; intro v' w' ha' hg' hl'; have HA3 := Lib.hid ha'; have HG3 := Lib.hid hg'; have HL3 := Lib.hid hl'; clear ha' hg' hl') | fail)
          go_roundw
          case rel =>
            refine ⟨i + 1, by omega, by go_num, F2, ?_, ?_, ?_⟩
            · have tg := turned_grown (turned_refl _ _) HG3.out (L := (Value.slice wa (wantL U no i).length wc).ownBlock.toList) (fun k e => .inl (by simp [e]))
              refine (H2.out.past TB2.out).apart tg (fun k hk => ?_)
              have hk' : (Value.slice wa (wantL U no i).length wc).ownBlock = some k := by simpa using hk
              exact ⟨(row_lt0 R2.out k hk').1, Q2.out k hk'⟩
            · rw [EW.out, List.length_append, flat_app]
              exact HA3.out
            · intro q hq e
              rcases HL3.out with h | h
              · exact Q2.out q (by rw [← h]; exact hq) e
              · rw [h] at hq
                cases hq
                have h1 := H2.out.1.lt _ e
                have h2 := TB2.out.2.2.2.1
                omega
          case measure => simp only [intOf]; omega
      · have ew : wantL U no (i + 1) = wantL U no i := by unfold wantL; rw [EN.out, if_neg hk, List.append_nil]
        have EW := Lib.hid ew
        have hk2 : keeps U no i = false := by cases h : keeps U no i; rfl; exact absurd h hk
        have hno0 := KN.out
        rw [hk2] at hno0
        have g1 : (ui == 0) = false := by
          rw [beq_eq_false_iff_ne]
          intro h0
          rw [h0] at hno0
          simp at hno0
        have g2 : decide (no < ui) = false := by
          cases h : decide (no < ui)
          · rfl
          · rw [h] at hno0; simp at hno0
        clear ew hk hk2 hno0
        go_wp2_with fail
        go_roundw
        case rel =>
          refine ⟨i + 1, by omega, by go_num, F2, H2.out, ?_, Q2.out⟩
          rw [EW.out]
          exact R2.out
        case measure => simp only [intOf]; omega
    · have hin : i = n := by omega
      subst hin
      have ew : wantL U no i = wantL U no U.length := by rw [HN.out]
      have HO2 := Lib.hid (show Own W wr g F (EQ U U.length) by rw [HN.out]; exact HO.out)
      have hkl : (wantL U no i).length = (EK U no U.length).length := by rw [ew]; simp [wantL]
      obtain ⟨K, hK⟩ : ∃ K, K = EK U no U.length := ⟨_, rfl⟩
      rw [← hK] at hkl
      have HR2 := Lib.hid (show wr.ownsRow W.heap.size 5 1 (.slice wa K.length wc) K.length (flat cB (wantL U no U.length)) by rw [← hkl, ← ew]; exact HR.out)
      have HQ2 := Lib.hid (show ∀ q, (Value.slice wa K.length wc).ownBlock = some q → q ∉ F by rw [← hkl]; exact HQ.out)
      rw [hkl]
      have hk60 : K.length ≤ 60 := by rw [hK]; exact Nat.le_trans (EK_len _ _ _) (by rw [HN.out]; exact hn60)
      have hltz : ¬ (i : Int) < (i : Int) := by omega
      have HKK := Lib.hid hK
      have OKQ := Lib.hid (EQ_ok U HU.out (by rw [HN.out]; exact hn60) U.length (Nat.le_refl _))
      have EX := Lib.hid (EQ_expire U no U.length)
      have ER := Lib.hid (show XS.zero.run no (EQ U U.length).L = ⟨(U.length : Int) - ((EK U no U.length).length : Int), 0, 0, false, false, [], 0⟩ from EQ_run U no U.length)
      clear ew hkl hK HO HR HQ hwc1 d0 hc1
      go_wp2_with fail
      refine (oexpire_own g F (EQ U U.length) (EY U U.length K 0) U.length no _ W _ HO2.out OKQ.out (by rw [HN.out]; omega) (by rw [HKK.out]; exact EX.out) ER.out).mono ?_
      rintro e w2 ⟨a2, c2, rfl, hr2, hq2, F2, hh, hs, tt⟩
      have td := turned_alloc (turned_refl w2 []) (.cells #[.int .u32 0, .int .u16 0, .int .u16 0, .bool false, .bool false, .bool false, .slice a2 0 c2] 34)
      have H3 := Lib.hid (hh.past td)
      have R3 := Lib.hid (row_past (row_past HR2.out tt HQ2.out) td (by simp))
      have Q3 := Lib.hid (fun q hq (e : q ∈ F2) => HQ2.out q hq (hs q e))
      clear hr2 hq2 hh hs tt td
      have hwt := EY_wait U U.length K 0
      rw [Nat.sub_zero] at hwt
      have OKY := Lib.hid (show ∀ i, i ≤ K.length → (EY U U.length K i).ok U.length by rw [HKK.out]; exact EY_ok U no HU.out (by rw [HN.out]; exact hn60))
      have HWT := Lib.hid hwt
      clear hwt
      have g9 : ((K.length : Int) == (K.length : Int)) = true := by simp
      go_wp2_with fail
      refine (oused_own g F2 (EY U U.length K 0) W _ H3.out (K.length : Int) rfl).mono ?_
      rintro e w4 ⟨rfl, rfl⟩
      go_wp2_with fail
      refine (owait g F2 (EY U U.length K 0) U.length _ H3.out.1 (OKY.out 0 (Nat.zero_le _)) (by rw [HN.out]; omega)).mono ?_
      rintro e w5 ⟨rfl, q5, rfl⟩
      rw [HWT.out]
      have H5 := Lib.hid (H3.out.past (turned_drewN _ q5 []))
      have R5 := Lib.hid (row_past R3.out (turned_drewN _ q5 []) (by simp))
      generalize World.drewN _ q5 = w5 at H5 R5 ⊢
      clear H3 R3
      go_wp2_with fail
      go_loopw [14] (fun iv wr => ∃ i : Nat, i ≤ K.length ∧ iv = .int .i64 (i : Int) ∧ ∃ F, Own W wr g F (EY U U.length K i) ∧ wr.ownsRow W.heap.size 5 1 (.slice wa K.length wc) K.length (flat cB (wantL U no U.length)) ∧ ∀ q, (Value.slice wa K.length wc).ownBlock = some q → q ∉ F) (fun iv _ => K.length - (intOf iv).toNat)
      case atStart => exact ⟨0, Nat.zero_le _, rfl, F2, H5.out, R5.out, Q3.out⟩
      case round =>
        obtain ⟨i, hi, rfl, F, ho, hr, hq⟩ := hrel
        have HO := Lib.hid ho
        have HR := Lib.hid hr
        have HQ := Lib.hid hq
        clear ho hr hq
        by_cases hlt : i < K.length
        · obtain ⟨x1, x2, x3⟩ := EY_next U U.length K i hlt (by omega)
          have X1 := Lib.hid x1
          have X2 := Lib.hid x2
          have X3 := Lib.hid x3
          have hK0 : ∀ j, j ∈ K → j < 60 := fun j hj => by rw [HKK.out] at hj; have := EK_lt _ _ _ j hj; rw [HN.out] at this; omega
          have hki := hK0 _ (List.getElem_mem hlt)
          have hwi : (wantL U no U.length)[i]? = some ((K[i]'hlt : Nat) : Int) := by unfold wantL; rw [← HKK.out]; simp [hlt]
          have HWI := Lib.hid hwi
          clear x1 x2 x3 hK0 hwi
          go_wp2_with fail
          refine (onext_own g F (EY U U.length K i) (EY U U.length K (i + 1)) U.length 5 (eit U (K[i]'hlt)) _ 1 ⟨0, 0, (i : Int), false, true, true, [((K[i]'hlt : Nat) : Int)]⟩ W _ HO.out (OKY.out i hi) (by rw [HN.out]; omega) X1.out (by omega) (by rw [left_eit]; rfl) X2.out X3.out).mono ?_
          rintro e w6 ⟨a3, c3, rfl, _, hr6, hl6, hq6, F6, hh6, hs6, tt6⟩
          obtain ⟨_, _, e3, _, _, hf3⟩ := row_form hr6
          cases e3
          obtain ⟨r3, rfl⟩ := hf3 (by omega)
          have td := turned_alloc (turned_refl w6 []) (.cells #[.int .u32 0, .int .u16 0, .int .u16 (i : Int), .bool false, .bool true, .bool true, .slice (some ⟨r3, 0, none⟩) 1 c3] 34)
          have hd := obj.new w6 34 [.int .u32 0, .int .u16 0, .int .u16 (i : Int), .bool false, .bool true, .bool true, .slice (some ⟨r3, 0, none⟩) 1 c3]
          have R7 := Lib.hid (row_past (row_past HR.out tt6 HQ.out) td (by simp))
          have hwa : ∃ rw_, wa = some ⟨rw_, 0, none⟩ := by
            obtain ⟨_, _, e4, _, _, hf4⟩ := row_form R7.out
            simp only [Value.slice.injEq] at e4
            obtain ⟨rfl, _, _⟩ := e4
            exact hf4 (by omega)
          obtain ⟨rw_, rfl⟩ := hwa
          have n3 := (row_past hr6 td (by simp)).cellAt 0 (by decide)
          have n3' : (w6.alloc (.cells #[.int .u32 0, .int .u16 0, .int .u16 (i : Int), .bool false, .bool true, .bool true, .slice (some ⟨r3, 0, none⟩) 1 c3] 34)).cell? ⟨r3, 0, none⟩ = some (.int .u8 ((K[i]'hlt : Nat) : Int)) := n3
          have hil := (List.getElem?_eq_some_iff.1 HWI.out).1
          have n4 : (w6.alloc (.cells #[.int .u32 0, .int .u16 0, .int .u16 (i : Int), .bool false, .bool true, .bool true, .slice (some ⟨r3, 0, none⟩) 1 c3] 34)).cell? ⟨rw_, i, none⟩ = some (.int .u8 ((K[i]'hlt : Nat) : Int)) := by
            have e5 := flat_at cB_len (wantL U no U.length) i hil 0 (by omega)
            rw [Nat.mul_one, Nat.add_zero] at e5
            have e6 : (wantL U no U.length)[i]'hil = ((K[i]'hlt : Nat) : Int) := (List.getElem?_eq_some_iff.1 HWI.out).2
            rw [e6] at e5
            exact (R7.out.cellAt i (by rw [Nat.mul_one]; exact hlt)).trans e5
          have m2 := hd.cell 2 rfl
          have m6 := hd.cell 6 rfl
          have H7 := Lib.hid (hh6.past td)
          have Q7 := Lib.hid (fun q hq (e : q ∈ F6) => HQ.out q hq (hs6 q e))
          clear hr6 hl6 hq6 hh6 hs6 tt6 n3 hd td X1 X2 X3
          have eid : (eit U (K[i]'hlt)).id = ((K[i]'hlt : Nat) : Int) := rfl
          rw [eid]
          generalize K[i]'hlt = kv at *
          have s1 : IntKind.i64.wrap (kv : Int) = (kv : Int) := IntWalk.i64_in _ (by omega)
          have s2 : IntKind.u16.wrap (i : Int) = (i : Int) := by simp [IntKind.wrap, IntKind.signed, IntKind.bits]; omega
          go_wp2_with fail
          generalize (w6.alloc (.cells #[.int .u32 0, .int .u16 0, .int .u16 (i : Int), .bool false, .bool true, .bool true, .slice (some ⟨r3, 0, none⟩) 1 c3] 34)) = w7 at *
          go_quiet (fail)
          go_wp2_with fail
          go_roundw
          case rel =>
            refine ⟨i + 1, by omega, by go_num, F6, H7.out.past (turned_drewN _ _ []), row_past R7.out (turned_drewN _ _ []) (by simp), Q7.out⟩
          case measure => simp only [intOf]; omega
        · have hik : i = K.length := by omega
          subst hik
          have hne : ¬ (K.length : Int) < (K.length : Int) := by omega
          go_wp2_with fail
          refine (onext_none g F (EY U U.length K K.length) U.length 5 _ HO.out.1 (OKY.out _ (Nat.le_refl _)) (by rw [HN.out]; omega) (.inl (by simp [EY]))).mono ?_
          rintro e w6 ⟨rfl, tt⟩
          have T6 := Lib.hid (turned_trans HO.out.2.2 (turned_alloc tt (.cells #[.int .u32 0, .int .u16 0, .int .u16 0, .bool false, .bool false, .bool false, .slice none 0 0] 34)))
          clear tt
          unfold noData
          go_wp2_with fail
          refine (works20 _).mono ?_
          rintro e w7 ⟨rfl, tt⟩
          go_wp2_with fail
          go_ret
          exact ⟨rfl, below_turned (Below.refl _ _) (turned_trans T6.out tt) (by simp)⟩
end Go.Proofs.Ytibnjakiagcopaa
