/- OutqPlays' walk: the queue and the document's answer alike, whatever is done. No condition. -/
import Derived.Test.YtibnjakiagcopaaOutqRef11
namespace Go.Proofs.Ytibnjakiagcopaa
open Go.RowKit Go.Deep
set_option linter.unusedVariables false
set_option linter.unusedSimpArgs false

/-- The two queues: one state, apart. -/
def PRel (W : World) (g g2 : Nat) (i : Nat) (wr : World) : Prop := ∃ S F G, Own W wr g F S ∧ S.ok i ∧ refIs wr g2 G S ∧ (∀ k, k ∈ G → W.heap.size ≤ k) ∧ ∀ k, k ∈ F → k ∉ G
set_option maxRecDepth 100000 in
set_option maxHeartbeats 4000000 in
theorem outqPlays.walk (W : World) (st : Int) (ws : (Lit.int .i64 st).wf = true) (r : Int) (wr : (Lit.int .i64 r).wf = true) (v : Value) (X : List OD × List (List Int)) (h : LiesO W v X.1 X.2 ∧ ∀ B, B ∈ X.2 → B.length ≤ 140737488351232) :
    Calls Try.prog 4 #[.int .i64 st, .int .i64 r, v] W fun e w' => e = .returned (.bool true) ∧ Below W.heap.size W w' := by
  have hr := wf_i64_range wr
  clear wr ws
  obtain ⟨X, Bs⟩ := X
  obtain ⟨h, hl⟩ := h
  simp only at h hl
  obtain ⟨a, cap, rfl, hc1, hc2⟩ := h.1.form
  have HV := Lib.hid (ovast _ X Bs W h)
  cases hv : vastly Bs with
  | true =>
    rw [hv] at HV
    clear h hl hv
    generalize X.length = n at *
    go_enter Try.func4, Try.ntmps4
    go_wp2_with fail
    refine HV.out.mono ?_
    rintro e w1 ⟨rfl, q, rfl⟩
    go_wp2_with fail
    refine (works20 _).mono ?_
    rintro e w2 ⟨rfl, tt⟩
    go_wp2_with fail
    go_ret
    exact ⟨rfl, below_turned (Below.refl _ _) (turned_trans (turned_drewN _ _ _) tt) (by simp)⟩
  | false =>
    rw [hv] at HV
    have hn100 := vast_len hv
    have hXB := h.2.2.1
    obtain ⟨n, hn⟩ : ∃ n, X.length = n := ⟨_, rfl⟩
    have hn1 : n ≤ 100 := by omega
    rw [hn] at hc1 HV
    rw [show (Value.slice a X.length cap) = .slice a n cap by rw [hn]]
    have H := Lib.hid h
    have HLN := Lib.hid hl
    have HN := Lib.hid hn
    have HXB := Lib.hid hXB
    clear h hl hv hn100 hXB hn
    by_cases hbad : 1 ≤ st ∧ st ≤ 16 ∧ 1 ≤ r ∧ r ≤ 1048576
    case neg =>
      have hb := Lib.hid (fun w => onew_bad st r hbad w)
      have hb2 := Lib.hid (fun w => rnew_bad st r hbad w)
      clear hbad hr
      go_enter Try.func4, Try.ntmps4
      go_wp2_with fail
      refine HV.out.mono ?_
      rintro e w1 ⟨rfl, q, rfl⟩
      go_wp2_with fail
      refine (hb.out _).mono ?_
      rintro e w2 ⟨rfl, rfl⟩
      go_wp2_with fail
      refine (hb2.out _).mono ?_
      rintro e w2 ⟨rfl, rfl⟩
      go_wp2_with fail
      refine (works20 _).mono ?_
      rintro e w2 ⟨rfl, tt⟩
      go_wp2_with fail
      go_ret
      exact ⟨rfl, below_turned (Below.refl _ _) (turned_trans (turned_drewN _ _ _) tt) (by simp)⟩
    obtain ⟨b1, b2, b3, b4⟩ := hbad
    obtain ⟨k, rfl⟩ : ∃ k : Nat, st = (k : Int) := ⟨st.toNat, by omega⟩
    have hnew := Lib.hid (fun w => onew k r (by omega) ⟨b3, b4⟩ w)
    have hnew2 := Lib.hid (fun w => rnew k r (by omega) ⟨b3, b4⟩ w)
    go_enter Try.func4, Try.ntmps4
    go_wp2_with fail
    refine HV.out.mono ?_
    rintro e w1 ⟨rfl, q, rfl⟩
    go_wp2_with fail
    refine (hnew.out _).mono ?_
    rintro e w2 ⟨g, F1, rfl, h1, f1, t1⟩
    have t02 := turned_trans (turned_drewN W q []) t1
    have H1 := Lib.hid h1
    have F1' := Lib.hid f1
    have T02 := Lib.hid t02
    clear h1 f1 t1 t02
    go_wp2_with fail
    refine (hnew2.out _).mono ?_
    rintro e w3 ⟨g2, G1, rfl, h2, f2, t2⟩
    have R2 := Lib.hid (show PRel W g g2 0 w3 from ⟨newQ k r, F1, G1, ⟨H1.out.past t2 (by simp), F1'.out, turned_trans T02.out t2⟩, newQ_ok k r (by omega) ⟨b3, b4⟩ 0, h2, fun q hq => Nat.le_trans T02.out.2.2.2.1 (f2 q hq), fun q hq hq2 => by have h5 := H1.out.lt q hq; have h6 := f2 q hq2; omega⟩)
    clear h2 f2 t2 HV hnew hnew2
    go_wp2_with fail
    go_loopw [11] (fun iv wr => ∃ i : Nat, i ≤ n ∧ iv = .int .i64 (i : Int) ∧ PRel W g g2 i wr) (fun iv _ => n - (intOf iv).toNat)
    case atStart => exact ⟨0, Nat.zero_le _, rfl, R2.out⟩
    case round =>
      obtain ⟨i, hi, rfl, S, F, G, ho, hok, hg, hgW, hFG⟩ := hrel
      have HO := Lib.hid ho
      have HOK := Lib.hid hok
      have HG := Lib.hid hg
      have HGW := Lib.hid hgW
      have HFG := Lib.hid hFG
      clear ho hok hg hgW hFG
      by_cases hlt : i < n
      · have hx : i < X.length := by rw [HN.out]; exact hlt
        have hb : i < Bs.length := by rw [HXB.out]; exact hx
        obtain ⟨b, off, rfl, _, hc⟩ := H.out.cells i hx
        obtain ⟨x, hxe⟩ : ∃ x, X[i]'hx = x := ⟨_, rfl⟩
        obtain ⟨B, hBe⟩ : ∃ B, Bs[i]'hb = B := ⟨_, rfl⟩
        have hxo := H.out.2.1 _ (List.getElem_mem hx)
        have hxB := H.out.2.2.2 i hx hb
        have hxl := HLN.out _ (List.getElem_mem hb)
        rw [hxe] at hc hxo hxB
        rw [hBe] at hxB hxl
        have hbn := hxB.len
        have hcs : ∀ w', turned W w' [] → ∀ j, j < 6 → w'.cell? ⟨b, off + i * 6 + j, none⟩ = (cOD x)[j]? := fun w' t j hj => by
          have e := hc j hj
          have hlt : j < (cOD x).length := by rw [cOD_len]; exact hj
          rw [List.getElem?_eq_getElem hlt] at e ⊢
          exact turned_cell t e (by simp)
        have sok := QS.act_ok HOK.out (by omega) hxo hxB.2
        have hdo := fun w1 F1 (h1 : Own W w1 g F1 S) => odoes_new g F1 S i x B W w1 h1 HOK.out (by omega) hxo hxB hxl
        have hme := fun w1 (t : turned W w1 []) (h1 : refIs w1 g2 G S) => rmeant g2 G S i x B w1 h1 HOK.out (by omega) hxo (hxB.none_ t) hxl
        have HCS := Lib.hid hcs
        have SOK := Lib.hid sok
        have HDO := Lib.hid hdo
        have HME := Lib.hid hme
        clear sok hdo hme hc hcs hxB hxe hBe hxl
        obtain ⟨k', ⟨s, o, ba, bn, bc⟩, un, nn⟩ := x
        simp only at hbn
        subst hbn
        obtain ⟨A, hA⟩ : ∃ A, S.act ⟨k', ⟨s, o, ba, B.length, bc⟩, un, nn⟩ B = A := ⟨_, rfl⟩
        rw [hA] at SOK HDO HME
        obtain ⟨S', d, num, isv, ev⟩ := A
        simp only at SOK HDO HME
        clear hA hxo
        have z0 : wr.cell? ⟨b, off + i * 6, none⟩ = some (.int .i64 k') := HCS.out wr HO.out.2.2 0 (by omega)
        have z1 : wr.cell? ⟨b, off + i * 6 + 1, none⟩ = some (.int .u16 s) := HCS.out wr HO.out.2.2 1 (by omega)
        have z2 : wr.cell? ⟨b, off + i * 6 + 2, none⟩ = some (.bool o) := HCS.out wr HO.out.2.2 2 (by omega)
        have z3 : wr.cell? ⟨b, off + i * 6 + 3, none⟩ = some (.slice ba B.length bc) := HCS.out wr HO.out.2.2 3 (by omega)
        have z4 : wr.cell? ⟨b, off + i * 6 + 4, none⟩ = some (.int .i64 un) := HCS.out wr HO.out.2.2 4 (by omega)
        have z5 : wr.cell? ⟨b, off + i * 6 + 5, none⟩ = some (.int .i64 nn) := HCS.out wr HO.out.2.2 5 (by omega)
        have hii : (i : Int) < (n : Int) := by omega
        have hi0 : (0 : Int) ≤ (i : Int) := by omega
        go_wp2_with fail
        refine (HDO.out _ F HO.out).mono ?_
        rintro e w4 ⟨a4, c4, F', rfl, hb4, ho4, hg4, t4, hn4⟩
        clear z0 z1 z2 z3 z4 z5
        have tt := turned_alloc (turned_refl w4 []) (.cells #[.int .u32 d.t, .int .u16 d.s, .int .u16 d.n, .bool d.u, .bool d.f, .bool d.l, .slice a4 d.B.length c4, .int .i64 num, .bool isv, .int .i64 ev] 48)
        have T12 := Lib.hid (obj.new w4 48 [.int .u32 d.t, .int .u16 d.s, .int .u16 d.n, .bool d.u, .bool d.f, .bool d.l, .slice a4 d.B.length c4, .int .i64 num, .bool isv, .int .i64 ev])
        have H5 := Lib.hid (ho4.past tt)
        have B5 := Lib.hid (hb4.none_ tt)
        have G5 := Lib.hid ((HG.out.past t4 (fun q hq hq2 => HFG.out q hq2 hq)).past tt (by simp))
        have hF' : ∀ q, q ∈ F' → q ∉ G := fun q hq hq2 => by
          rcases hg4 q hq with e | e
          · exact HFG.out q e hq2
          · have := HG.out.lt q hq2; omega
        have hn5 : ∀ q, (Value.slice a4 d.B.length c4).ownBlock = some q → q ∉ G := fun q hq hq2 => by
          have h5 := hn4 q hq
          have h6 := HG.out.lt q hq2
          omega
        have h12G : w4.heap.size ∉ G := fun e => by
          have h5 := HG.out.lt _ e
          have h6 := t4.2.2.2.1
          omega
        have HF' := Lib.hid hF'
        have HN5 := Lib.hid hn5
        have H12G := Lib.hid h12G
        clear hb4 ho4 hg4 t4 hn4 tt hF' hn5 h12G
        generalize hw5 : w4.alloc (.cells #[.int .u32 d.t, .int .u16 d.s, .int .u16 d.n, .bool d.u, .bool d.f, .bool d.l, .slice a4 d.B.length c4, .int .i64 num, .bool isv, .int .i64 ev] 48) = w5 at T12 H5 B5 G5
        have z0 : w5.cell? ⟨b, off + i * 6, none⟩ = some (.int .i64 k') := HCS.out w5 H5.out.2.2 0 (by omega)
        have z1 : w5.cell? ⟨b, off + i * 6 + 1, none⟩ = some (.int .u16 s) := HCS.out w5 H5.out.2.2 1 (by omega)
        have z2 : w5.cell? ⟨b, off + i * 6 + 2, none⟩ = some (.bool o) := HCS.out w5 H5.out.2.2 2 (by omega)
        have z3 : w5.cell? ⟨b, off + i * 6 + 3, none⟩ = some (.slice ba B.length bc) := HCS.out w5 H5.out.2.2 3 (by omega)
        have z4 : w5.cell? ⟨b, off + i * 6 + 4, none⟩ = some (.int .i64 un) := HCS.out w5 H5.out.2.2 4 (by omega)
        have z5 : w5.cell? ⟨b, off + i * 6 + 5, none⟩ = some (.int .i64 nn) := HCS.out w5 H5.out.2.2 5 (by omega)
        unfold told
        go_wp2_with fail
        refine (HME.out _ H5.out.2.2 G5.out).mono ?_
        rintro e w6 ⟨a6, c6, G', rfl, hb6, hg6, hgr6, t6⟩
        clear z0 z1 z2 z3 z4 z5
        have h6 := H5.out.apart t6 (fun q hq => ⟨HGW.out q hq, fun hf => HF'.out q hf hq⟩)
        have b6 : LiesB w6 (.slice a4 d.B.length c4) d.B := ⟨B5.out.1.keep t6 (fun ad m c e => by cases e; exact HN5.out _ rfl), B5.out.2⟩
        have hG' : ∀ q, q ∈ G' → W.heap.size ≤ q := fun q hq => by
          rcases hgr6 q hq with e | e
          · exact HGW.out q e
          · exact Nat.le_trans H5.out.2.2.2.2.2.1 e
        have hFG' : ∀ q, q ∈ F' → q ∉ G' := fun q hq hq2 => by
          rcases hgr6 q hq2 with e | e
          · exact HF'.out q hq e
          · have := H5.out.1.lt q hq; omega
        have tt := turned_alloc (turned_refl w6 []) (.cells #[.int .u32 d.t, .int .u16 d.s, .int .u16 d.n, .bool d.u, .bool d.f, .bool d.l, .slice a6 d.B.length c6, .int .i64 num, .bool isv, .int .i64 ev] 48)
        have T13 := Lib.hid (obj.new w6 48 [.int .u32 d.t, .int .u16 d.s, .int .u16 d.n, .bool d.u, .bool d.f, .bool d.l, .slice a6 d.B.length c6, .int .i64 num, .bool isv, .int .i64 ev])
        have T12' := Lib.hid ((T12.out.past t6 H12G.out).past tt (by simp))
        have H7 := Lib.hid (h6.past tt)
        have B7 := Lib.hid (b6.none_ tt)
        have C7 := Lib.hid (hb6.none_ tt)
        have G7 := Lib.hid (hg6.past tt (by simp))
        have HGW' := Lib.hid hG'
        have HFG' := Lib.hid hFG'
        clear t6 h6 b6 hG' hFG' tt hb6 hg6 hgr6 hw5
        generalize hw7 : w6.alloc (.cells #[.int .u32 d.t, .int .u16 d.s, .int .u16 d.n, .bool d.u, .bool d.f, .bool d.l, .slice a6 d.B.length c6, .int .i64 num, .bool isv, .int .i64 ev] 48) = w7 at T13 T12' H7 B7 C7 G7
        have y0 := T12'.out.cell 0 rfl
        have y1 := T12'.out.cell 1 rfl
        have y2 := T12'.out.cell 2 rfl
        have y3 := T12'.out.cell 3 rfl
        have y4 := T12'.out.cell 4 rfl
        have y5 := T12'.out.cell 5 rfl
        have y6 := T12'.out.cell 6 rfl
        have x0 := T13.out.cell 0 rfl
        have x1 := T13.out.cell 1 rfl
        have x2 := T13.out.cell 2 rfl
        have x3 := T13.out.cell 3 rfl
        have x4 := T13.out.cell 4 rfl
        have x5 := T13.out.cell 5 rfl
        have x6 := T13.out.cell 6 rfl
        unfold told
        go_upto_region 14 with (fail)
        (try rw [hw7])
        clear hw7
        go_wp2_with fail
        refine (osame_yes d _ _ w7 B7.out C7.out).mono ?_
        rintro e w8 ⟨rfl, t8⟩
        have H8 := Lib.hid (H7.out.past t8)
        have G8 := Lib.hid (G7.out.past t8 (by simp))
        have u12 := T12'.out.past t8 (by simp)
        have u13 := T13.out.past t8 (by simp)
        clear y0 y1 y2 y3 y4 y5 y6 x0 x1 x2 x3 x4 x5 x6 t8
        have y7 := u12.cell 7 rfl
        have y8 := u12.cell 8 rfl
        have y9 := u12.cell 9 rfl
        have x7 := u13.cell 7 rfl
        have x8 := u13.cell 8 rfl
        have x9 := u13.cell 9 rfl
        clear u12 u13
        go_wp2_with fail
        refine (oused_own g F' S' W _ H8.out _ rfl).mono ?_
        rintro e w9 ⟨rfl, rfl⟩
        go_wp2_with fail
        refine (rused g2 G' S' _ G8.out).mono ?_
        rintro e w9 ⟨rfl, rfl⟩
        go_wp2_with fail
        refine (owait g F' S' (i + 1) _ H8.out.1 SOK.out (by omega)).mono ?_
        rintro e w9 ⟨rfl, p1, rfl⟩
        go_wp2_with fail
        refine (rwait g2 G' S' (i + 1) _ (G8.out.past (turned_drewN _ p1 []) (by simp)) SOK.out (by omega)).mono ?_
        rintro e w9 ⟨rfl, p2, rfl⟩
        go_wp2_with fail
        refine (osize g F' S' (i + 1) _ (H8.out.past (turned_drewN _ _ [])).1 SOK.out).mono ?_
        rintro e w9 ⟨rfl, p3, rfl⟩
        go_wp2_with fail
        refine (rsize g2 G' S' (i + 1) _ (G8.out.past (turned_drewN _ _ []) (by simp)) SOK.out).mono ?_
        rintro e w9 ⟨rfl, p4, rfl⟩
        go_wp2_with fail
        go_roundw
        case rel => exact ⟨i + 1, by omega, by go_num, S', F', G', H8.out.past (turned_drewN _ _ []), SOK.out, G8.out.past (turned_drewN _ _ []) (by simp), HGW'.out, HFG'.out⟩
        case measure => simp only [intOf]; omega
      · have hin : i = n := by omega
        subst hin
        have hnl : ¬ (i : Int) < (i : Int) := by omega
        go_wp2_with fail
        refine (works20 _).mono ?_
        rintro e w3 ⟨rfl, tt⟩
        go_wp2_with fail
        go_ret
        exact ⟨rfl, below_turned (Below.refl _ _) (turned_trans HO.out.2.2 tt) (by simp)⟩
end Go.Proofs.Ytibnjakiagcopaa
