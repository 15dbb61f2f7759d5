/- The walk of FragTsns. No condition. -/
import Derived.Test.YtcfpgeceenkheaaFragLarge
namespace Go.Proofs.Ytcfpgeceenkheaa
open Go.ChangeShapes Go.WideShapes Go.RowKit Go.Deep
set_option linter.unusedVariables false
set_option linter.unusedSimpArgs false

theorem LiesW.cell {w : World} {a : Option Addr} {n cap : Nat} {T : List Int} (h : LiesW w (.slice a n cap) T) (j : Nat) (hj : j < T.length) : ∃ b off, a = some ⟨b, off, none⟩ ∧ b < w.heap.size ∧ w.cell? ⟨b, off + j, none⟩ = some (.int .u32 (T[j]'hj)) := by
  obtain ⟨⟨_, a', cap', e, _, _, hc⟩, _⟩ := h
  cases e
  obtain ⟨b, off, rfl, hb, hcell⟩ := hc (by omega)
  have e := flat_at cW_len T j hj 0 (by omega)
  rw [Nat.mul_one, Nat.add_zero] at e
  exact ⟨b, off, rfl, hb, hcell j _ e⟩
theorem LiesW.none_ {w w' : World} {v : Value} {T : List Int} (h : LiesW w v T) (t : turned w w' []) : LiesW w' v T := ⟨h.1.none_ t, h.2⟩
theorem alike_t {X Y : List PD} (h : alikeX X Y) (j : Nat) (hj : j < Y.length) (u : Int) : alikeX X (Y.set j { Y[j]'hj with t := u }) := by
  refine ⟨by rw [List.length_set]; exact h.1, fun i hi hi' => ?_⟩
  have hi2 : i < Y.length := by simpa using hi'
  have q := h.2 i hi hi2
  by_cases e : j = i
  · subst e
    rw [List.getElem_set_self]
    exact q
  · rw [List.getElem_set_ne e]
    exact q
set_option maxRecDepth 100000 in
set_option maxHeartbeats 8000000 in
theorem fragTsns.walk (W : World) (v : Value) (x : List PD × List (List Int)) (h : LiesF W v x.1 x.2) (v1 : Value) (T : List Int) (hT : LiesW W v1 T) :
    Calls Try.prog 9 #[v, v1] W fun e w' => e = .returned (.bool true) ∧ Below W.heap.size W w' := by
  obtain ⟨X, Bs⟩ := x
  simp only at h
  obtain ⟨a, cap, rfl, hc1, hc2⟩ := h.1.1.form
  obtain ⟨ta, tc, rfl, hd1, hd2⟩ := hT.1.form
  have H := Lib.hid h
  have HTS := Lib.hid hT
  obtain ⟨i0, hi0, hz0, hz1, hz2⟩ := info_parts infoPD
  clear h hT
  go_enter Try.func9, Try.ntmps9
  go_wp2_with fail
  refine (large_any _ X Bs W H.out).mono ?_
  rintro e w1 ⟨b, rfl, hb, t1⟩
  have T1 := Lib.hid t1
  clear t1
  cases b with
  | true =>
    go_wp2_with fail
    refine (works17 _).mono ?_
    rintro e w7 ⟨rfl, t7⟩
    go_wp2
    go_ret
    exact ⟨rfl, turned_below (turned_trans T1.out t7)⟩
  | false =>
    obtain ⟨hx1, hx2⟩ := hb rfl
    obtain ⟨S, U, B, b, hB, hBl, hj⟩ := join_any X Bs (by omega) (by omega) H.out.bytes
    have HJ := Lib.hid hj
    have H1 := Lib.hid (H.out.none_ T1.out)
    clear hj hb hx2
    go_wp2_with fail
    refine (HJ.out X (alikeX.refl X) w1 _ H1.out).mono ?_
    rintro e w2 ⟨ja, jc, rfl, jr, t2⟩
    have tb := turned_alloc (turned_refl w2 []) (.cells #[.int .u16 S, .bool U, .slice ja B.length jc] 25)
    have H2 := Lib.hid ((H1.out.none_ t2).none_ tb)
    have JL := Lib.hid (show LiesB _ (.slice ja B.length jc) B from ⟨(Lies.row jr).none_ tb, hB⟩)
    have T2 := Lib.hid (turned_trans T1.out (turned_trans t2 tb))
    have hsz : w2.heap.size < (w2.alloc (.cells #[.int .u16 S, .bool U, .slice ja B.length jc] 25)).heap.size := by rw [World.size_alloc]; omega
    have OM := Lib.hid (obj.new w2 25 [.int .u16 S, .bool U, .slice ja B.length jc])
    clear t2 tb jr
    go_wp2_with (first | (at_builtin; refine wpList_append_lies' _ rfl _ _ 29 rfl (w2.alloc (.cells #[.int .u16 S, .bool U, .slice ja B.length jc] 25)).heap.size 38 i0 _ 7 40 Try.underlying29 hi0 hz0 hz1 hz2 rfl (by decide) _ 0 [] rfl (World.ownsRow_nil _ _ _ _) _ X.length (flat cPD X) rfl H2.out.1.1 (flatPD_one X) (by unfold maxLen; omega) (by omega) (Nat.le_refl _) ?_) | go_in)
    intro v3 w3 ho hg hl
    generalize hw2b : w2.alloc _ = w2b at *
    have hsb : w2b.heap.size = w2.heap.size + 1 := by rw [← hw2b, World.size_alloc]
    have ho' : w3.ownsRow w2b.heap.size 38 7 v3 X.length (flat cPD X) := by rw [hsb]; simpa using ho
    have hl' : v3.ownBlock = none ∨ v3.ownBlock = some w2b.heap.size := by rw [hsb]; simpa [Value.ownBlock] using hl
    have t3 : turned w2b w3 [] := turned_none hg
    have hR := RowF.copy H2.out ho' t3 hl'
    obtain ⟨ra, rc, rfl, hr1, hr2, hra⟩ := row_form ho'
    have hr2' : rc ≤ 9223372036854775807 := hr2
    have HR := Lib.hid hR
    have HRA := Lib.hid hra
    have T3 := Lib.hid t3
    have hw2 : w2.heap.size < w2b.heap.size := OM.out.lt
    clear ho hg hl hl' ho' t3 hR hra hr2 hw2b hsz hsb
    go_wp2
    go_loopw [8] (fun i wr => ∃ (j : Nat) (Y : List PD), j ≤ X.length ∧ i = .int .i64 (j : Int) ∧ alikeX X Y ∧ RowF w2b.heap.size wr (.slice ra X.length rc) Y Bs ∧ turned w2b wr []) (fun i _ => X.length - (intOf i).toNat)
    case atStart => exact ⟨0, X, Nat.zero_le _, rfl, alikeX.refl X, HR.out, T3.out⟩
    case round =>
      clear HR T3
      obtain ⟨j, Y, hj, rfl, hal, hR, hT2⟩ := hrel
      by_cases hlt : j < X.length
      · by_cases hlt2 : j < T.length
        · obtain ⟨g, rfl⟩ := HRA.out (by omega)
          have hjY : j < Y.length := by rw [hal.1]; exact hlt
          obtain ⟨tb, toff, rfl, _, htc⟩ := ((HTS.out.none_ T2.out).none_ hT2).cell j hlt2
          have hrg := HTS.out.2 _ (List.getElem_mem hlt2)
          obtain ⟨u, hu⟩ : ∃ u, T[j]'hlt2 = u := ⟨_, rfl⟩
          rw [hu] at htc hrg
          have hok := hR.2.1 _ (List.getElem_mem hjY)
          have c0 := (piece_cells hR.lies.1 j hjY rfl).1
          have hrow := hR.1
          rw [hal.1] at hrow
          have ef := hrow.frozenAt (j * 7)
          have HTN := Lib.hid (row_lt hrow g rfl)
          have HN := Lib.hid (hR.turn' hal.1.symm j hjY 0 (by omega) (.int .u32 u) { Y[j]'hjY with t := u } rfl ⟨hrg.1, hrg.2, hok.s0, hok.s1, hok.n0, hok.n1⟩ rfl rfl rfl)
          have HAL := Lib.hid (alike_t hal j hjY u)
          have HT2 := Lib.hid hT2
          have hd : decide (j < T.length) = true := decide_eq_true hlt2
          clear hal hR hT2 hu hok hrow hrg
          go_wp2
          go_roundw
          case rel => exact ⟨j + 1, _, by omega, by go_num, HAL.out, HN.out, turned_setNew HT2.out HTN.out.1 _⟩
          case measure => simp only [intOf]; omega
        · have hd : decide (j < T.length) = false := decide_eq_false hlt2
          have hL := hR.lies
          have OM4 := Lib.hid (OM.out.past hT2 (by simp))
          have JL4 := Lib.hid (JL.out.none_ hT2)
          have TW := Lib.hid (turned_trans T2.out hT2)
          have HRL := Lib.hid hL
          have HAL := Lib.hid hal
          clear hL hR hal hT2
          go_wp2_with fail
          refine (HJ.out Y HAL.out wr _ HRL.out).mono ?_
          rintro e w4 ⟨ka, kc, rfl, kr, t4⟩
          have tb4 := turned_alloc (turned_refl w4 []) (.cells #[.int .u16 S, .bool U, .slice ka B.length kc] 25)
          have O5 := Lib.hid (OM4.out.past t4 (by simp))
          have JL5 := Lib.hid ((JL4.out.none_ t4).none_ tb4)
          have KL5 := Lib.hid (show LiesB _ (.slice ka B.length kc) B from ⟨(Lies.row kr).none_ tb4, hB⟩)
          have T5 := Lib.hid (turned_trans TW.out (turned_trans t4 tb4))
          have hw4 := O5.out.lt
          have m0 := O5.out.cell 0 rfl
          have m1 := O5.out.cell 1 rfl
          have m2 := O5.out.cell 2 rfl
          clear t4 tb4 kr
          go_wp2_with fail
          refine (sameMsg_yes S U _ _ B _ JL5.out KL5.out (by omega)).mono ?_
          rintro e w6 ⟨rfl, t6⟩
          go_wp2_with fail
          refine (works17 _).mono ?_
          rintro e w7 ⟨rfl, t7⟩
          go_wp2
          go_ret
          exact ⟨rfl, turned_below (turned_trans T5.out (turned_trans t6 t7))⟩
      · obtain rfl : j = X.length := by omega
        have hL := hR.lies
        have OM4 := Lib.hid (OM.out.past hT2 (by simp))
        have JL4 := Lib.hid (JL.out.none_ hT2)
        have TW := Lib.hid (turned_trans T2.out hT2)
        have HRL := Lib.hid hL
        have HAL := Lib.hid hal
        clear hL hR hal hT2
        go_wp2_with fail
        refine (HJ.out Y HAL.out wr _ HRL.out).mono ?_
        rintro e w4 ⟨ka, kc, rfl, kr, t4⟩
        have tb4 := turned_alloc (turned_refl w4 []) (.cells #[.int .u16 S, .bool U, .slice ka B.length kc] 25)
        have O5 := Lib.hid (OM4.out.past t4 (by simp))
        have JL5 := Lib.hid ((JL4.out.none_ t4).none_ tb4)
        have KL5 := Lib.hid (show LiesB _ (.slice ka B.length kc) B from ⟨(Lies.row kr).none_ tb4, hB⟩)
        have T5 := Lib.hid (turned_trans TW.out (turned_trans t4 tb4))
        have hw4 := O5.out.lt
        have m0 := O5.out.cell 0 rfl
        have m1 := O5.out.cell 1 rfl
        have m2 := O5.out.cell 2 rfl
        clear t4 tb4 kr
        go_wp2_with fail
        refine (sameMsg_yes S U _ _ B _ JL5.out KL5.out (by omega)).mono ?_
        rintro e w6 ⟨rfl, t6⟩
        go_wp2_with fail
        refine (works17 _).mono ?_
        rintro e w7 ⟨rfl, t7⟩
        go_wp2
        go_ret
        exact ⟨rfl, turned_below (turned_trans T5.out (turned_trans t6 t7))⟩
end Go.Proofs.Ytcfpgeceenkheaa
