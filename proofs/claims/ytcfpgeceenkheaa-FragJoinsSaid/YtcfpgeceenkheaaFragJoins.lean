/- The walk of FragJoins. No condition. -/
import Derived.Test.YtcfpgeceenkheaaFragJoinsPre
namespace Go.Proofs.Ytcfpgeceenkheaa
open Go.ChangeShapes Go.WideShapes Go.RowKit Go.Deep
set_option linter.unusedVariables false
set_option linter.unusedSimpArgs false

/-- The copy of the pieces so far. -/
def CpRel (W : World) (X : List PD) (Bs : List (List Int)) (v i : Value) (wr : World) : Prop :=
  ∃ (j : Nat) (Y : List PD), j ≤ X.length ∧ i = .int .i64 (j : Int) ∧ Y.length = j ∧ RowF W.heap.size wr v Y (Bs.take j) ∧ (∀ t (h : t < X.length) (h' : t < Y.length), cPD (Y[t]'h') = (cPD (X[t]'h)).set 6 (.slice (Y[t]'h').ba (Y[t]'h').bn (Y[t]'h').bc) ∧ (Y[t]'h').bn = (X[t]'h).bn) ∧ turned W wr []
theorem cPD_inj6 {x y : PD} {v : Value} (h : cPD y = (cPD x).set 6 v) : y.t = x.t ∧ y.s = x.s ∧ y.n = x.n ∧ y.u = x.u ∧ y.f = x.f ∧ y.l = x.l := by
  simp [cPD] at h
  obtain ⟨h1, h2, h3, h4, h5, h6, _⟩ := h
  exact ⟨h1, h2, h3, h4, h5, h6⟩
set_option maxRecDepth 100000 in
set_option maxHeartbeats 3000000 in
theorem fragJoins.walk (W : World) (v : Value) (x : List PD × List (List Int)) (h : LiesF W v x.1 x.2) :
    Calls Try.prog 4 #[v] W fun e w' => e = .returned (.bool true) ∧ Below W.heap.size W w' := by
  obtain ⟨X, Bs⟩ := x
  simp only at h
  obtain ⟨a, cap, rfl, hc1, hc2⟩ := h.1.1.form
  have H := Lib.hid h
  obtain ⟨i0, hi0, hz0, hz1, hz2⟩ := info_parts infoPD
  clear h
  go_enter Try.func4, Try.ntmps4
  go_wp2_with fail
  refine (large_any _ X Bs W H.out).mono ?_
  rintro e w1 ⟨b, rfl, hb, t1⟩
  have T1 := Lib.hid t1
  clear t1
  cases b with
  | true =>
    go_wp2_with fail
    refine (works17 _).mono ?_
    rintro e w7 ⟨rfl, t7⟩
    go_wp2
    go_ret
    exact ⟨rfl, turned_below (turned_trans T1.out t7)⟩
  | false =>
    obtain ⟨hx1, hx2⟩ := hb rfl
    have HBF := Lib.hid hx2
    obtain ⟨S, U, B, b, hB, hBl, hj⟩ := join_all X Bs (by omega) (by omega) H.out.bytes
    have HJ := Lib.hid hj
    clear hj hb hx2
    go_wp2_with fail
    go_loopw [3, 4] (fun v i wr => CpRel W X Bs v i wr) (fun _ i _ => X.length - (intOf i).toNat)
    case atStart => exact ⟨0, [], Nat.zero_le _, rfl, rfl, ⟨World.ownsRow_nil _ _ _ _, fun x hx => (by cases hx), rfl, fun i h => (by cases h)⟩, fun t h h' => (by cases h'), T1.out⟩
    case round =>
      obtain ⟨j, Y, hj, rfl, hY, hR, hal, ht⟩ := hrel
      obtain ⟨ra, rc, hv4, hr1, hr2, hra⟩ := row_form hR.1
      subst hv4
      have hr2' : rc ≤ 9223372036854775807 := hr2
      rw [hY] at hr1 hR ⊢
      by_cases hlt : j < X.length
      · have hjB : j < Bs.length := by rw [H.out.2.1]; exact hlt
        have hL := H.out.none_ ht
        obtain ⟨b0, off, rfl, hb0, c0, c1, c2, c3, c4, c5, c6⟩ := hL.1.cells j hlt
        have hok := H.out.1.2 _ (List.getElem_mem hlt)
        obtain ⟨x, hx⟩ : ∃ x, X[j]'hlt = x := ⟨_, rfl⟩
        have hlb := hL.2.2 j hlt hjB
        rw [hx] at c0 c1 c2 c3 c4 c5 c6 hlb hok
        have HXJ := Lib.hid hx
        have HOK := Lib.hid hok
        have HR := Lib.hid hR
        have HAL := Lib.hid hal
        have HT := Lib.hid ht
        have HLB := Lib.hid hlb
        have HY := Lib.hid hY
        have HRA := Lib.hid hra
        have hbl : (Bs[j]'hjB).length ≤ 131072 := Nat.le_trans (by have := take_flat_le Bs (j + 1); rw [take_flat Bs j hjB, List.length_append] at this; omega) HBF.out
        have HBN := Lib.hid hlb.len
        have C6 := Lib.hid c6
        clear hx hok hR hal ht hlb hL hY hra hr2
        go_wp2_with fail
        generalize hw5 : wr.alloc _ = w5
        have O5 := Lib.hid (new_of hw5)
        have T5 := Lib.hid (turned_of hw5)
        have hw5s : wr.heap.size < w5.heap.size := O5.out.lt
        have B5 := Lib.hid (HLB.out.none_ T5.out)
        clear hw5 c0 c1 c2 c3 c4 c5 c6
        refine (copyb _ (Bs[j]'hjB) w5 B5.out (by omega)).mono ?_
        rintro e w6 ⟨na, nc, rfl, nr, t6⟩
        have O6 := O5.out.past t6 (by simp)
        have NR := Lib.hid nr
        have T6 := Lib.hid (turned_trans T5.out t6)
        have r0 := O6.cell 0 rfl
        have r1 := O6.cell 1 rfl
        have r2 := O6.cell 2 rfl
        have r3 := O6.cell 3 rfl
        have r4 := O6.cell 4 rfl
        have r5 := O6.cell 5 rfl
        have r6 := O6.cell 6 rfl
        have f6 := O6.free 6
        have O6' := Lib.hid O6
        clear nr t6 O6
        have O6 := O6'
        obtain ⟨x', hx'⟩ : ∃ x' : PD, x' = { x with ba := na, bn := (Bs[j]'hjB).length, bc := nc } := ⟨_, rfl⟩
        have tB : turned wr ((w6.setCell ⟨wr.heap.size, 6, none⟩ (.slice na (Bs[j]'hjB).length nc)).alloc (.cells #[.int .u32 x.t, .int .u16 x.s, .int .u16 x.n, .bool x.u, .bool x.f, .bool x.l, .slice na (Bs[j]'hjB).length nc] 38)) [] := turned_alloc (turned_setNew T6.out (Nat.le_refl _) _) _
        have hRB := HR.out.none_ tB
        have hrl := fun k e => (row_lt HR.out.1 k e).2
        have hNB : LiesB ((w6.setCell ⟨wr.heap.size, 6, none⟩ (.slice na (Bs[j]'hjB).length nc)).alloc (.cells #[.int .u32 x.t, .int .u16 x.s, .int .u16 x.n, .bool x.u, .bool x.f, .bool x.l, .slice na (Bs[j]'hjB).length nc] 38)) (.slice na (Bs[j]'hjB).length nc) (Bs[j]'hjB) := by
          refine LiesB.none_ (w := w6.setCell ⟨wr.heap.size, 6, none⟩ (.slice na (Bs[j]'hjB).length nc)) ?_ (turned_alloc (turned_refl _ _) _)
          refine LiesB.set ⟨Lies.row NR.out, HLB.out.2⟩ (fun h0 p ep e => ?_) _
          have := (row_lt NR.out p.block (by rw [ep]; rfl)).1
          omega
        have hO : obj ((w6.setCell ⟨wr.heap.size, 6, none⟩ (.slice na (Bs[j]'hjB).length nc)).alloc (.cells #[.int .u32 x.t, .int .u16 x.s, .int .u16 x.n, .bool x.u, .bool x.f, .bool x.l, .slice na (Bs[j]'hjB).length nc] 38)) w6.heap.size 38 (cPD x') := by
          have := obj.new (w6.setCell ⟨wr.heap.size, 6, none⟩ (.slice na (Bs[j]'hjB).length nc)) 38 (cPD x')
          rw [hx'] at this ⊢
          simpa [World.setCell, cPD] using this
        have HLI := Lib.hid (show Lies _ 7 (.slice (some ⟨w6.heap.size, 0, none⟩) 1 1) 1 (cPD x') from Lies.lit hO rfl (by omega))
        have HTB := Lib.hid tB
        have HRB := Lib.hid hRB
        have HRL := Lib.hid hrl
        have HNB := Lib.hid hNB
        have HX' := Lib.hid hx'
        have HOWN := hRB.1
        rw [HY.out] at HOWN
        have HOWN' := Lib.hid HOWN
        have hwW := HT.out.2.2.2.1
        have hw6s := T6.out.2.2.2.1
        clear tB hRB hrl hNB hO hx' HOWN O6
        go_wp2_with (first | (at_builtin; refine wpList_append_lies' _ rfl _ _ 29 rfl W.heap.size 38 i0 _ 7 40 Try.underlying29 hi0 hz0 hz1 hz2 rfl (by decide) _ j (flat cPD Y) rfl HOWN'.out _ 1 (cPD x') rfl HLI.out (cPD_one x') (by unfold maxLen; omega) (by omega) (by simp [World.setCell]; omega) ?_) | go_in)
        intro v7 w7 ho hg hl
        obtain ⟨va, vc, rfl, _⟩ := row_form ho
        have HO := Lib.hid ho
        have HG := Lib.hid hg
        have HL := Lib.hid hl
        clear ho hg hl r0 r1 r2 r3 r4 r5 r6 f6
        go_wp2_with fail
        go_roundw
        case rel =>
          have hs := HRB.out.snoc HG.out x' (by rw [HX'.out]; exact ⟨HOK.out.t0, HOK.out.t1, HOK.out.s0, HOK.out.s1, HOK.out.n0, HOK.out.n1⟩) (Bs[j]'hjB) (by rw [HX'.out]; exact HNB.out) (j + 1) (by rw [HY.out]) (by rw [flat_app, flat_single]; exact HO.out) (by have h := HL.out; first | exact h | (rcases h with h | h; exact .inl h; exact .inr (by rw [h]; simp [World.setCell]))) (fun h0 p ep e => by
            rw [HX'.out] at ep
            have h1 := HRL.out p.block e
            have h2 := (row_lt NR.out p.block (by rw [show na = some p from ep]; rfl)).1
            omega)
          refine ⟨j + 1, Y ++ [x'], by omega, by go_num, by simp [HY.out], ?_, fun t h h' => ?_, ?_⟩
          · rw [List.take_succ_eq_append_getElem hjB]
            exact hs
          · rcases Nat.lt_or_ge t Y.length with g1 | g1
            · rw [List.getElem_append_left g1]
              exact HAL.out t h g1
            · have : t = Y.length := by simp at h'; omega
              subst this
              rw [List.getElem_append_right (Nat.le_refl _)]
              simp only [Nat.sub_self, List.getElem_singleton]
              have e1 : X[Y.length]'h = x := by rw [← HXJ.out]; first | (congr 1; done) | (congr 1; exact HY.out)
              rw [e1, HX'.out]
              exact ⟨rfl, HBN.out.symm⟩
          · exact turned_new (turned_trans HT.out HTB.out) HG.out (fun k e => (row_lt HR.out.1 k e).1)
        case measure => simp only [intOf]; omega
      · obtain rfl : j = X.length := by omega
        have eB : Bs.take X.length = Bs := by rw [← H.out.2.1]; exact List.take_length
        rw [eB] at hR
        have hak : alikeX X Y := ⟨hY, fun i hi hi' => by
          obtain ⟨q1, q2⟩ := hal i hi hi'
          obtain ⟨a1, a2, a3, a4, a5, a6⟩ := cPD_inj6 q1
          exact ⟨a2, a3, a4, a5, a6, q2⟩⟩
        have htw : twinX Y X := ⟨hY.symm, fun i hi hi' => by
          obtain ⟨a1, a2, a3, a4, a5, a6⟩ := cPD_inj6 (hal i hi' hi).1
          exact ⟨a1.symm, a2.symm, a3.symm, a4.symm, a5.symm, a6.symm⟩⟩
        have HAK := Lib.hid hak
        have HTW := Lib.hid htw
        have HT := Lib.hid ht
        have HLY := Lib.hid hR.lies
        have HLX := Lib.hid (H.out.none_ ht)
        have HYL := Lib.hid hY
        have HEACH := Lib.hid (show ∀ i (hi : i < Bs.length), (Bs[i]'hi).length ≤ 4000000 from fun i hi => by have := take_flat_le Bs (i + 1); rw [take_flat Bs i hi, List.length_append] at this; have := HBF.out; omega)
        clear hak htw hal hR ht hra hr2 hY eB
        go_wp2_with fail
        refine (fjoin _ Y Bs wr HLY.out (by rw [HYL.out]; omega) (by have := HBF.out; omega)).mono ?_
        intro e w7 hj7
        obtain ⟨ja, jc, rfl, jr, t7⟩ := HJ.out Y HAK.out _ _ _ hj7
        have hw7 := t7.2.2.2.1
        have T7 := Lib.hid t7
        have JR7 := Lib.hid jr
        have LX7 := Lib.hid (HLX.out.none_ t7)
        clear hj7 t7 jr
        go_wp2_with fail
        generalize hw8 : w7.alloc _ = w8
        have OM := Lib.hid (new_of hw8)
        have T8 := Lib.hid (turned_of hw8)
        clear hw8
        have hbm : wr.heap.size ≤ w7.heap.size := hw7
        generalize w7.heap.size = bm at *
        refine (rjoin _ X Bs w8 (LX7.out.none_ T8.out) (by omega) (by have := HBF.out; omega)).mono ?_
        intro e w9 hj9
        obtain ⟨ka, kc, rfl, kr, t9⟩ := HJ.out X (alikeX.refl X) _ _ _ hj9
        have tb := turned_alloc (turned_refl w9 []) (.cells #[.int .u16 S, .bool U, .slice ka B.length kc] 25)
        have t79 := turned_trans T8.out t9
        have O9 := OM.out.past t9 (by simp)
        have hbm9 := O9.lt
        have m0 := O9.cell 0 rfl
        have m1 := O9.cell 1 rfl
        have m2 := O9.cell 2 rfl
        have HO9 := Lib.hid (O9.alloc (.cells #[.int .u16 S, .bool U, .slice ka B.length kc] 25))
        have JR9 := Lib.hid (row_past (row_past JR7.out t79 (by simp)) tb (by simp))
        have KR9 := Lib.hid (row_past kr tb (by simp))
        have TA := Lib.hid (turned_trans T7.out (turned_trans t79 tb))
        clear hj9 kr t9 tb t79 O9
        go_wp2_with fail
        generalize (w9.alloc (.cells #[.int .u16 S, .bool U, .slice ka B.length kc] 25)) = wa at HO9 JR9 KR9 TA ⊢
        refine (sameMsg_yes S U _ _ B wa ⟨Lies.row JR9.out, hB⟩ ⟨Lies.row KR9.out, hB⟩ (by omega)).mono ?_
        rintro e wb ⟨rfl, tb⟩
        have OB := Lib.hid (HO9.out.past tb (by simp))
        have JRB := Lib.hid (row_past JR9.out tb (by simp))
        have TB := Lib.hid (turned_trans TA.out tb)
        clear tb m0 m1 m2
        go_wp2_with fail
        refine (same_yes _ _ Y X Bs wb (HLY.out.none_ TB.out) (HLX.out.none_ TB.out) HTW.out HEACH.out).mono ?_
        rintro e wc ⟨rfl, tc⟩
        have OC := Lib.hid (OB.out.past tc (by simp))
        have JRC := Lib.hid (row_past JRB.out tc (by simp))
        have TC := Lib.hid (turned_trans TB.out tc)
        clear tc
        go_wp2_with fail
        obtain ⟨wo, rfl⟩ : ∃ wo : World, wo = wr := ⟨_, rfl⟩
        go_loopw [10] (fun i wr => ∃ (i' : Nat) (B' : List Int), i' ≤ B.length ∧ i = .int .i64 (i' : Int) ∧ B'.length = B.length ∧ wr.ownsRow wo.heap.size 5 1 (.slice ja B.length jc) B.length (flat cB B') ∧ obj wr bm 25 [.int .u16 S, .bool U, .slice ja B.length jc] ∧ turned wo wr []) (fun i _ => B.length - (intOf i).toNat)
        case atStart => exact ⟨0, B, Nat.zero_le _, rfl, rfl, JRC.out, OC.out, TC.out⟩
        case round =>
          clear HO9 JR9 KR9 TA OB JRB TB OC JRC TC
          obtain ⟨i, B', hi, rfl, hBl', hr', ho', ht'⟩ := hrel
          have m2 := ho'.cell 2 rfl
          have HR' := Lib.hid hr'
          have HO' := Lib.hid ho'
          have HT' := Lib.hid ht'
          have HBL' := Lib.hid hBl'
          clear hr' ho' ht' hBl'
          by_cases hlt2 : i < B.length
          · obtain ⟨aj, cj, ej, _, _, hja⟩ := row_form HR'.out
            cases ej
            obtain ⟨g, rfl⟩ := hja (by omega)
            have hib : i < B'.length := by rw [HBL'.out]; exact hlt2
            have ec := HR'.out.cellAt i (by omega)
            rw [flatB_at B' i hib] at ec
            have ef := HR'.out.frozenAt i
            have hst := (HR'.out.stored i (.int .u8 (IntKind.u8.wrap (B'[i]'hib + 1)))).1
            have hsetc := flat_set cB_len B' i hib 0 (by omega) (.int .u8 (IntKind.u8.wrap (B'[i]'hib + 1))) (IntKind.u8.wrap (B'[i]'hib + 1)) rfl
            rw [Nat.mul_one, Nat.add_zero] at hsetc
            rw [hsetc] at hst
            have HST := Lib.hid hst
            have hgb := (row_lt HR'.out g rfl).1
            have hgm := row_ne HR'.out HO'.out (by decide)
            have HGM := Lib.hid (show bm ≠ g from fun e => hgm (by rw [e]; rfl))
            clear hja hst hsetc hgm
            go_wp2_with fail
            go_region
            go_wp2_with fail
            go_roundw
            case rel => exact ⟨i + 1, _, by omega, by go_num, by rw [List.length_set]; exact HBL'.out, HST.out, (HO'.out.setOther HGM.out _).drew, turned_drew' (turned_setNew HT'.out hgb _)⟩
            case measure => simp only [intOf]; omega
          · go_wp2_with fail
            refine (same_yes _ _ Y X Bs _ (HLY.out.none_ HT'.out) (HLX.out.none_ HT'.out) HTW.out HEACH.out).mono ?_
            rintro e wd ⟨rfl, td⟩
            go_wp2_with fail
            refine (works17 _).mono ?_
            rintro e we ⟨rfl, te⟩
            go_wp2
            go_ret
            exact ⟨rfl, turned_below (turned_trans HT.out (turned_trans HT'.out (turned_trans td te)))⟩
end Go.Proofs.Ytcfpgeceenkheaa
