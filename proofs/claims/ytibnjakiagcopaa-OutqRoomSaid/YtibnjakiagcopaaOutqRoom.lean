/- The walk of OutqRoom. No condition. -/
import Derived.Test.YtibnjakiagcopaaOutqRoomP
namespace Go.Proofs.Ytibnjakiagcopaa
open Go.RowKit Go.Deep
set_option linter.unusedVariables false
set_option linter.unusedSimpArgs false

def RRel (W : World) (g : Nat) (r : Int) (i : Nat) (taken : Int) (wr : World) : Prop := ∃ S F, Own W wr g F S ∧ S.ok i ∧ RInv r S taken
set_option maxRecDepth 100000 in
set_option maxHeartbeats 4000000 in
theorem outqRoom.walk (W : World) (r : Int) (wr : (Lit.int .i64 r).wf = true) (v : Value) (X : List OD × List (List Int)) (h : LiesO W v X.1 X.2 ∧ ∀ B, B ∈ X.2 → B.length ≤ 140737488351232) :
    Calls Try.prog 6 #[.int .i64 r, v] W fun e w' => e = .returned (.bool true) ∧ Below W.heap.size W w' := by
  have hr := wf_i64_range wr
  clear wr
  obtain ⟨X, Bs⟩ := X
  obtain ⟨h, hl⟩ := h
  simp only at h hl
  obtain ⟨a, cap, rfl, hc1, hc2⟩ := h.1.form
  have HV := Lib.hid (ovast _ X Bs W h)
  cases hv : vastly Bs with
  | true =>
    rw [hv] at HV
    clear h hl hv
    generalize X.length = n at *
    go_enter Try.func6, Try.ntmps6
    go_wp2_with fail
    refine HV.out.mono ?_
    rintro e w1 ⟨rfl, q, rfl⟩
    go_wp2_with fail
    refine (works20 _).mono ?_
    rintro e w2 ⟨rfl, tt⟩
    go_wp2_with fail
    go_ret
    exact ⟨rfl, below_turned (Below.refl _ _) (turned_trans (turned_drewN _ _ _) tt) (by simp)⟩
  | false =>
    rw [hv] at HV
    have hn100 := vast_len hv
    have hXB := h.2.2.1
    obtain ⟨n, hn⟩ : ∃ n, X.length = n := ⟨_, rfl⟩
    have hn1 : n ≤ 100 := by omega
    rw [hn] at hc1 HV
    rw [show (Value.slice a X.length cap) = .slice a n cap by rw [hn]]
    have H := Lib.hid h
    have HLN := Lib.hid hl
    have HN := Lib.hid hn
    have HXB := Lib.hid hXB
    clear h hl hv hn100 hXB hn
    by_cases hbad : 1 ≤ r ∧ r ≤ 1048576
    case neg =>
      have hcase : decide (r < 1) = true ∨ (decide (r < 1) = false ∧ decide (1048576 < r) = true) := by
        by_cases h1 : r < 1
        · exact .inl (decide_eq_true h1)
        · exact .inr ⟨decide_eq_false h1, decide_eq_true (by omega)⟩
      have hb := Lib.hid (fun w => onew_bad 4 r (by omega) w)
      clear hbad hr
      rcases hcase with d1 | ⟨d1, d2⟩
      all_goals
        go_enter Try.func6, Try.ntmps6
        go_wp2_with fail
        refine HV.out.mono ?_
        rintro e w1 ⟨rfl, q, rfl⟩
        go_wp2_with fail
        refine (hb.out _).mono ?_
        rintro e w2 ⟨rfl, rfl⟩
        go_wp2_with fail
        refine (works20 _).mono ?_
        rintro e w2 ⟨rfl, tt⟩
        go_wp2_with fail
        go_ret
        exact ⟨rfl, below_turned (Below.refl _ _) (turned_trans (turned_drewN _ _ _) tt) (by simp)⟩
    have hnew := Lib.hid (fun w => (onew 4 r (by omega) hbad w : Calls Try.prog 9 #[.int .i64 4, .int .i64 r] w _))
    go_enter Try.func6, Try.ntmps6
    go_wp2_with fail
    refine HV.out.mono ?_
    rintro e w1 ⟨rfl, q, rfl⟩
    go_wp2_with fail
    refine (hnew.out _).mono ?_
    rintro e w2 ⟨g, F1, rfl, h1, f1, t1⟩
    have R2 := Lib.hid (show RRel W g r 0 0 w2 from ⟨newQ 4 r, F1, ⟨h1, f1, turned_trans (turned_drewN W q []) t1⟩, newQ_ok 4 r (by omega) hbad 0, ⟨rfl, rfl, Int.le_refl _, rfl, by intro x hx; cases hx⟩⟩)
    clear h1 f1 t1 HV hnew
    go_wp2_with fail
    go_loopw [7, 8] (fun tv iv wr => ∃ (i : Nat) (taken : Int), i ≤ n ∧ iv = .int .i64 (i : Int) ∧ tv = .int .i64 taken ∧ RRel W g r i taken wr) (fun _ iv _ => n - (intOf iv).toNat)
    case atStart => exact ⟨0, 0, Nat.zero_le _, rfl, rfl, R2.out⟩
    case round =>
      obtain ⟨i, taken, hi, rfl, rfl, S, F, ho, hok, hinv⟩ := hrel
      have HO := Lib.hid ho
      have HOK := Lib.hid hok
      have HI := Lib.hid hinv
      have ht0 := hinv.t0
      have htu : taken ≤ r := by have h1 := hinv.used; have h2 := hok.u1; have h3 := hinv.room; omega
      clear ho hok hinv
      by_cases hlt : i < n
      · have hx : i < X.length := by rw [HN.out]; exact hlt
        have hb : i < Bs.length := by rw [HXB.out]; exact hx
        obtain ⟨b, off, rfl, _, hc⟩ := (H.out.none_ HO.out.2.2).cells i hx
        obtain ⟨x, hxe⟩ : ∃ x, X[i]'hx = x := ⟨_, rfl⟩
        obtain ⟨B, hBe⟩ : ∃ B, Bs[i]'hb = B := ⟨_, rfl⟩
        have hxo := H.out.2.1 _ (List.getElem_mem hx)
        have hxB := H.out.2.2.2 i hx hb
        have hxl := HLN.out _ (List.getElem_mem hb)
        rw [hxe] at hc hxo hxB
        rw [hBe] at hxB hxl
        have hbn := hxB.len
        have c0 := hc 0 (by omega)
        have c1 := hc 1 (by omega)
        have c2 := hc 2 (by omega)
        have c3 := hc 3 (by omega)
        have c4 := hc 4 (by omega)
        have c5 := hc 5 (by omega)
        rw [Nat.add_zero] at c0
        have st := room_step HI.out HOK.out x B
        have sok := QS.act_ok HOK.out (by omega) (x := asDone x taken) (by unfold asDone; split; exact ⟨hxo.s0, hxo.s1, hxo.k0, hxo.k1, hxo.u0, hxo.u1, by show (-9223372036854775808 : Int) ≤ taken; omega, by show taken ≤ (9223372036854775807 : Int); omega⟩; exact hxo) hxB.2
        have hdo := fun w1 F1 (h1 : Own W w1 g F1 S) => odoes g F1 S i (asDone x taken) B W w1 h1 HOK.out (by omega) (by unfold asDone; split; exact ⟨hxo.s0, hxo.s1, hxo.k0, hxo.k1, hxo.u0, hxo.u1, by show (-9223372036854775808 : Int) ≤ taken; omega, by show taken ≤ (9223372036854775807 : Int); omega⟩; exact hxo) (by unfold asDone; split; exact hxB; exact hxB) hxl
        have hpt := fun hk hu hs h1 h2 => room_put HI.out x B hk hu hs h1 h2
        have ST := Lib.hid st
        have SOK := Lib.hid sok
        have HDO := Lib.hid hdo
        have HPT := Lib.hid hpt
        clear st sok hdo hpt hc hxB hxe hBe hxl
        obtain ⟨k, ⟨s, o, ba, bn, bc⟩, un, nn⟩ := x
        simp only at hbn
        subst hbn
        have z0 : wr.cell? ⟨b, off + i * 6, none⟩ = some (.int .i64 k) := c0
        clear c0
        have z1 : wr.cell? ⟨b, off + i * 6 + 1, none⟩ = some (.int .u16 s) := c1
        clear c1
        have z2 : wr.cell? ⟨b, off + i * 6 + 2, none⟩ = some (.bool o) := c2
        clear c2
        have z3 : wr.cell? ⟨b, off + i * 6 + 3, none⟩ = some (.slice ba B.length bc) := c3
        clear c3
        have z4 : wr.cell? ⟨b, off + i * 6 + 4, none⟩ = some (.int .i64 un) := c4
        clear c4
        have z5 : wr.cell? ⟨b, off + i * 6 + 5, none⟩ = some (.int .i64 nn) := c5
        clear c5
        obtain ⟨tk, nn', hy, htk, hcase⟩ : ∃ tk nn', asDone ⟨k, ⟨s, o, ba, B.length, bc⟩, un, nn⟩ taken = ⟨k, ⟨s, o, ba, B.length, bc⟩, un, nn'⟩ ∧ after ⟨k, ⟨s, o, ba, B.length, bc⟩, un, nn⟩ taken = tk ∧ ((k = 3 ∧ tk = 0 ∧ nn' = taken) ∨ ((k == 3) = false ∧ tk = taken ∧ nn' = nn)) := by
          by_cases hk : k = 3
          · exact ⟨0, taken, by unfold asDone; rw [if_pos hk], by unfold after; rw [if_pos hk], .inl ⟨hk, rfl, rfl⟩⟩
          · exact ⟨taken, nn, by unfold asDone; rw [if_neg hk], by unfold after; rw [if_neg hk], .inr ⟨beq_eq_false_iff_ne.2 hk, rfl, rfl⟩⟩
        rw [hy, htk] at ST
        rw [hy] at SOK HDO HPT
        obtain ⟨A, hA⟩ : ∃ A, S.act ⟨k, ⟨s, o, ba, B.length, bc⟩, un, nn'⟩ B = A := ⟨_, rfl⟩
        rw [hA] at ST SOK HDO HPT
        obtain ⟨S', d, num, isv, ev⟩ := A
        simp only at ST SOK HDO HPT
        have HXO := Lib.hid hxo
        have HA := Lib.hid hA
        clear hy htk hA hxo
        go_upto_if 43 with (fail)
        go_cut [7] (fun tv wc => tv = .int .i64 tk ∧ wc = wr.alloc (.cells #[.int .i64 k, .int .u16 s, .bool o, .slice ba B.length bc, .int .i64 un, .int .i64 nn'] 51))
        case first =>
          rcases hcase with ⟨rfl, rfl, rfl⟩ | ⟨hk, rfl, rfl⟩
          all_goals
            go_wp2_with fail
            go_meet
            exact ⟨rfl, rfl⟩
        case rest =>
        obtain ⟨rfl, rfl⟩ := hcut
        clear hcase z0 z1 z2 z3 z4 z5
        have tx := turned_alloc (turned_refl wr []) (.cells #[.int .i64 k, .int .u16 s, .bool o, .slice ba B.length bc, .int .i64 un, .int .i64 nn'] 51)
        have D9 := Lib.hid (obj.new wr 51 [.int .i64 k, .int .u16 s, .bool o, .slice ba B.length bc, .int .i64 un, .int .i64 nn'])
        have H3 := Lib.hid (HO.out.past tx)
        have hDF : wr.heap.size ∉ F := fun e => by have := HO.out.1.lt _ e; omega
        clear tx
        generalize wr.heap.size = D at D9 hDF ⊢
        have x0 := D9.out.cell 0 rfl
        have x1 := D9.out.cell 1 rfl
        have x2 := D9.out.cell 2 rfl
        have x3 := D9.out.cell 3 rfl
        have x4 := D9.out.cell 4 rfl
        have x5 := D9.out.cell 5 rfl
        go_wp2_with fail
        refine (oused_own g F S W _ H3.out _ rfl).mono ?_
        rintro e w3 ⟨rfl, rfl⟩
        go_wp2_with fail
        refine (HDO.out _ F H3.out).mono ?_
        rintro e w4 ⟨a4, c4, F', rfl, hb4, ho4, hg4, t4⟩
        have tt := turned_alloc (turned_refl w4 []) (.cells #[.int .u32 d.t, .int .u16 d.s, .int .u16 d.n, .bool d.u, .bool d.f, .bool d.l, .slice a4 d.B.length c4, .int .i64 num, .bool isv, .int .i64 ev] 48)
        have T48 := Lib.hid (obj.new w4 48 [.int .u32 d.t, .int .u16 d.s, .int .u16 d.n, .bool d.u, .bool d.f, .bool d.l, .slice a4 d.B.length c4, .int .i64 num, .bool isv, .int .i64 ev])
        have E9 := Lib.hid ((D9.out.past t4 hDF).past tt (by simp))
        have H4 := Lib.hid (ho4.past tt)
        clear hb4 ho4 hg4 t4 x0 x1 x2 x3 x4 x5 D9
        have x0 := E9.out.cell 0 rfl
        have x1 := E9.out.cell 1 rfl
        have x3 := E9.out.cell 3 rfl
        have x4 := E9.out.cell 4 rfl
        have y6 := T48.out.cell 6 rfl
        have y9 := T48.out.cell 9 rfl
        have hU := ST.out.used
        have hT0 := ST.out.t0
        have hR := ST.out.room
        have hU1 := SOK.out.u1
        have hs0 := HXO.out.s0
        have hs1 := HXO.out.s1
        simp only at hs0 hs1
        have hsu0 := HOK.out.u0
        have hsu1 := HOK.out.u1
        have hsr := HI.out.room
        have q1 : IntKind.i64.wrap (tk + (d.B.length : Int)) = tk + (d.B.length : Int) := IntWalk.i64_in _ (by omega)
        have q2 : IntKind.i64.wrap s = s := IntWalk.i64_in _ (by omega)
        unfold told
        go_upto_region 17 with (fail)
        generalize w4.alloc (.cells #[.int .u32 d.t, .int .u16 d.s, .int .u16 d.n, .bool d.u, .bool d.f, .bool d.l, .slice a4 d.B.length c4, .int .i64 num, .bool isv, .int .i64 ev] 48) = w5 at x0 x1 x3 x4 y6 y9 H4 E9 T48 tt ⊢
        go_cut [100] (fun t wc => t = .bool false ∧ wc = w5)
        case first =>
          by_cases k0 : k = 0
          case neg =>
            have d1 : (k == 0) = false := beq_eq_false_iff_ne.2 k0
            go_wp2_with fail
            go_meet
            exact ⟨rfl, rfl⟩
          by_cases k1 : 0 ≤ un
          case neg =>
            have d1 : decide (0 ≤ un) = false := decide_eq_false k1
            subst k0
            go_wp2_with fail
            go_meet
            exact ⟨rfl, rfl⟩
          by_cases k2 : s < 4
          case neg =>
            have d1 : decide (0 ≤ un) = true := decide_eq_true k1
            have d2 : decide (s < 4) = false := decide_eq_false k2
            subst k0
            go_wp2_with fail
            go_meet
            exact ⟨rfl, rfl⟩
          by_cases k3 : 0 < B.length
          case neg =>
            have d1 : decide (0 ≤ un) = true := decide_eq_true k1
            have d2 : decide (s < 4) = true := decide_eq_true k2
            have d3 : decide ((0 : Int) < (B.length : Int)) = false := decide_eq_false (by omega)
            have d3' : ¬ (0 : Int) < (B.length : Int) := by omega
            subst k0
            go_wp2_with fail
            go_meet
            exact ⟨rfl, rfl⟩
          by_cases k4 : (B.length : Int) ≤ r
          case neg =>
            have d1 : decide (0 ≤ un) = true := decide_eq_true k1
            have d2 : decide (s < 4) = true := decide_eq_true k2
            have d3 : decide ((0 : Int) < (B.length : Int)) = true := decide_eq_true (by omega)
            have d4 : decide ((B.length : Int) ≤ r) = false := decide_eq_false k4
            subst k0
            go_wp2_with fail
            go_meet
            exact ⟨rfl, rfl⟩
          have d1 : decide (0 ≤ un) = true := decide_eq_true k1
          have d2 : decide (s < 4) = true := decide_eq_true k2
          have d3 : decide ((0 : Int) < (B.length : Int)) = true := decide_eq_true (by omega)
          have d4 : decide ((B.length : Int) ≤ r) = true := decide_eq_true k4
          have d5 := HPT.out k0 k1 k2 k3 k4
          have q3 : IntKind.i64.wrap (S.used + (B.length : Int)) = S.used + (B.length : Int) := IntWalk.i64_in _ (by omega)
          subst k0
          cases hd : decide (S.used + (B.length : Int) ≤ r)
          all_goals
            rw [hd] at d5
            go_wp2_with fail
            go_meet
            exact ⟨rfl, rfl⟩
        case rest =>
        obtain ⟨rfl, rfl⟩ := hcut
        have g1 : decide (r < S'.used) = false := decide_eq_false (by omega)
        have g2 : decide (S'.used < (S'.wait : Int)) = false := decide_eq_false (by omega)
        have q4 : IntKind.i64.wrap ((S'.wait : Int) + (tk + (d.B.length : Int))) = (S'.wait : Int) + (tk + (d.B.length : Int)) := IntWalk.i64_in _ (by omega)
        have g3 : (S'.used != (S'.wait : Int) + (tk + (d.B.length : Int))) = false := by rw [← hU]; simp
        clear x0 x1 x3 x4 y6 y9 q1 q2
        go_wp2_with fail
        refine (oused_own g F' S' W _ H4.out _ rfl).mono ?_
        rintro e w6 ⟨rfl, rfl⟩
        go_wp2_with fail
        refine (owait g F' S' (i + 1) _ H4.out.1 SOK.out (by omega)).mono ?_
        rintro e w7 ⟨rfl, p1, rfl⟩
        go_wp2_with fail
        refine (oused_own g F' S' W _ (H4.out.past (turned_drewN _ p1 [])) _ rfl).mono ?_
        rintro e w8 ⟨rfl, rfl⟩
        go_wp2_with fail
        refine (oused_own g F' S' W _ (H4.out.past (turned_drewN _ p1 [])) _ rfl).mono ?_
        rintro e w8 ⟨rfl, rfl⟩
        go_wp2_with fail
        refine (owait g F' S' (i + 1) _ (H4.out.past (turned_drewN _ p1 [])).1 SOK.out (by omega)).mono ?_
        rintro e w9 ⟨rfl, p2, rfl⟩
        go_wp2_with fail
        go_roundw
        case rel => exact ⟨i + 1, _, by omega, by go_num, rfl, S', F', (H4.out.past (turned_drewN _ p1 [])).past (turned_drewN _ p2 []), SOK.out, ST.out⟩
        case measure => simp only [intOf]; omega
      · have hin : i = n := by omega
        subst hin
        have hnl : ¬ (i : Int) < (i : Int) := by omega
        go_wp2_with fail
        refine (works20 _).mono ?_
        rintro e w3 ⟨rfl, tt⟩
        go_wp2_with fail
        go_ret
        exact ⟨rfl, below_turned (Below.refl _ _) (turned_trans HO.out.2.2 tt) (by simp)⟩
end Go.Proofs.Ytibnjakiagcopaa
