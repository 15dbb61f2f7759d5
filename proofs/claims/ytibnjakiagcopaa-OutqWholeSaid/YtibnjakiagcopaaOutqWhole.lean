/- OutqWhole's walk. No condition. -/
import Derived.Test.YtibnjakiagcopaaOutqWholeR
namespace Go.Proofs.Ytibnjakiagcopaa
open Go.RowKit Go.Deep
set_option linter.unusedVariables false
set_option linter.unusedSimpArgs false

set_option maxRecDepth 100000 in
set_option maxHeartbeats 4000000 in
theorem outqWhole.walk (W : World) (v : Value) (X : List MD × List (List Int)) (h : LiesM W v X.1 X.2) (v2 : Value) (Z : List Int) (hz : LiesB W v2 Z) :
    Calls Try.prog 5 #[v, v2] W fun e w' => e = .returned (.bool true) ∧ Below W.heap.size W w' := by
  obtain ⟨X, Bs⟩ := X
  simp only at h
  obtain ⟨a, cap, rfl, hc1, hc2⟩ := h.1.form
  obtain ⟨a2, cap2, rfl, hc3, hc4⟩ := hz.1.form
  obtain ⟨N, hN⟩ : ∃ N, X.length = N := ⟨_, rfl⟩
  have hat := fun j hj => h.at_ j hj
  rw [hN] at hat hc1 ⊢
  have HAT := Lib.hid hat
  have HZ := Lib.hid hz
  obtain ⟨nz, hnz⟩ : ∃ nz, Z.length = nz := ⟨_, rfl⟩
  rw [hnz] at hc3 ⊢
  have HNZ := Lib.hid hnz
  clear h hz hN hat hnz
  by_cases hbig : 60 < N
  · have d1 : decide ((60 : Int) < (N : Int)) = true := decide_eq_true (by omega)
    go_enter Try.func5, Try.ntmps5
    go_wp2_with fail
    refine (works20 _).mono ?_
    rintro e w2 ⟨rfl, tt⟩
    go_wp2_with fail
    go_ret
    exact ⟨rfl, below_turned (Below.refl _ _) tt (by simp)⟩
  have hN60 : N ≤ 60 := by omega
  have d1 : decide ((60 : Int) < (N : Int)) = false := decide_eq_false (by omega)
  clear hbig
  go_enter Try.func5, Try.ntmps5
  go_wp2_with fail
  go_loopw [5, 6] (fun nv iv wr => ∃ i : Nat, i ≤ N ∧ iv = .int .i64 (i : Int) ∧ nv = .int .i64 ((wtot (mβ Bs) i : Nat) : Int) ∧ (∀ j, j < i → 1 ≤ (mβ Bs j).length ∧ (mβ Bs j).length ≤ 1000) ∧ W = wr) (fun _ iv _ => N - (intOf iv).toNat)
  case atStart => exact ⟨0, Nat.zero_le _, rfl, rfl, by intro j hj; omega, rfl⟩
  case round =>
    obtain ⟨i, hi, rfl, rfl, hall, rfl⟩ := hrel
    by_cases hlt : i < N
    · obtain ⟨b, off, ba, bc, rfl, _, _, hcs⟩ := HAT.out i hlt
      obtain ⟨_, _, c2, _⟩ := hcs W (turned_refl _ _)
      have hii : (i : Int) < (N : Int) := by omega
      have hi0 : (0 : Int) ≤ (i : Int) := by omega
      have HALL := Lib.hid hall
      have hbd := wtot_bound (β := mβ Bs) (N := i) (fun j hj => (hall j hj).2)
      have hsc := wtot_succ (β := mβ Bs) i
      have HSC := Lib.hid hsc
      generalize wtot (mβ Bs) i = tt at *
      obtain ⟨ln, hln⟩ : ∃ ln, (mβ Bs i).length = ln := ⟨_, rfl⟩
      rw [hln] at c2
      have HLN := Lib.hid hln
      clear hcs hall hsc hln
      by_cases h0 : ln = 0
      · subst h0
        go_wp2_with fail
        refine (works20 _).mono ?_
        rintro e w2 ⟨rfl, tt⟩
        go_wp2_with fail
        go_ret
        exact ⟨rfl, below_turned (Below.refl _ _) tt (by simp)⟩
      have d0 : ((ln : Int) == 0) = false := beq_eq_false_iff_ne.2 (by omega)
      by_cases h1 : 1000 < ln
      · have d1 : decide ((1000 : Int) < (ln : Int)) = true := decide_eq_true (by omega)
        go_wp2_with fail
        refine (works20 _).mono ?_
        rintro e w2 ⟨rfl, tt⟩
        go_wp2_with fail
        go_ret
        exact ⟨rfl, below_turned (Below.refl _ _) tt (by simp)⟩
      · have d1 : decide ((1000 : Int) < (ln : Int)) = false := decide_eq_false (by omega)
        have s1 : IntKind.i64.wrap ((tt : Int) + (ln : Int)) = (tt : Int) + (ln : Int) := IntWalk.i64_in _ (by omega)
        go_wp2_with fail
        go_roundw
        case rel => exact ⟨i + 1, by omega, by go_num, by rw [HSC.out, HLN.out]; go_num, fun j hj => (Nat.lt_or_ge j i).elim (fun h => HALL.out j h) (fun h => by have e : j = i := (by omega); rw [e, HLN.out]; omega), by first | rfl | trivial⟩
        case measure => simp only [intOf]; omega
    · have hin : i = N := by omega
      subst hin
      have hnl : ¬ (i : Int) < (i : Int) := by omega
      have HALL := Lib.hid hall
      have hbd := wtot_bound (β := mβ Bs) (N := i) (fun j hj => (hall j hj).2)
      obtain ⟨T, hT⟩ : ∃ T, wtot (mβ Bs) i = T := ⟨_, rfl⟩
      rw [hT] at hbd ⊢
      have HT := Lib.hid hT
      clear hall hT
      have hnew := Lib.hid (fun w => (onew 16 1048576 (by omega) (by omega) w : Calls Try.prog 9 #[.int .i64 16, .int .i64 1048576] w _))
      go_wp2_with fail
      refine (hnew.out _).mono ?_
      rintro e w2 ⟨g, F1, rfl, h1, f1, t1⟩
      have R2 := Lib.hid (show Own W w2 g F1 (WQ (mσ X) (mω X) (mβ Bs) 0) from ⟨h1, f1, t1⟩)
      clear h1 f1 t1 hnew
      go_wp2_with fail
      go_loopw [9] (fun iv wp => ∃ (j : Nat) (F : List Nat), j ≤ i ∧ iv = .int .i64 (j : Int) ∧ Own W wp g F (WQ (mσ X) (mω X) (mβ Bs) j) ∧ (WQ (mσ X) (mω X) (mβ Bs) j).ok j) (fun iv _ => i - (intOf iv).toNat)
      case atStart => exact ⟨0, F1, Nat.zero_le _, rfl, R2.out, newQ_ok 16 1048576 (by omega) (by omega) 0⟩
      case round =>
        obtain ⟨j, F, hj, rfl, ho, hok⟩ := hrel
        have HO := Lib.hid ho
        have HOK := Lib.hid hok
        clear ho hok
        by_cases hlt2 : j < i
        · obtain ⟨b, off, ba, bc, rfl, hs, hby, hcs⟩ := HAT.out j hlt2
          have HCS := Lib.hid hcs
          obtain ⟨c0, c1, c2, _⟩ := hcs _ HO.out.2.2
          have hii : (j : Int) < (i : Int) := by omega
          have hi0 : (0 : Int) ≤ (j : Int) := by omega
          have HBY := Lib.hid hby
          have hs0 := hs.1
          have hs1 := hs.2
          have hsm : mσ X j = mS X j % 16 := rfl
          have HSM := Lib.hid hsm
          generalize mS X j = sj at *
          clear hcs hby hs hsm
          have tm := turned_alloc (turned_refl wr []) (.cells #[.int .u16 (sj % 16), .bool (mω X j), .slice ba (mβ Bs j).length bc] 31)
          have HP := Lib.hid (HO.out.past tm)
          have HB := Lib.hid ((HCS.out _ (turned_trans HO.out.2.2 tm)).2.2.2)
          have HERR := Lib.hid (WQ_err (X := X) (N := i) hlt2 hN60 HALL.out)
          rw [HSM.out] at HERR
          have HPUT := Lib.hid (WQ_put (σ := mσ X) (ω := mω X) (β := mβ Bs) j)
          rw [HSM.out] at HPUT
          have HOK2 := Lib.hid (WQ_ok_next (X := X) hlt2 hN60 HALL.out HBY.out HOK.out)
          have HBL := Lib.hid (show (mβ Bs j).length ≤ 4000000 from by have := HALL.out j hlt2; omega)
          clear tm
          have hj16 : (WQ (mσ X) (mω X) (mβ Bs) j).many = (j : Int) := rfl
          go_wp2_with fail
          refine (oput_own g F _ _ j (sj % 16) (mω X j) (.slice ba (mβ Bs j).length bc) (mβ Bs j) 0 W _ HP.out HOK.out (by omega) HB.out HBL.out (by omega) (by omega) HERR.out HPUT.out (j : Int) hj16).mono ?_
          rintro e w3 ⟨rfl, F', ho', _, _⟩
          have HO' := Lib.hid ho'
          clear ho'
          go_wp2_with fail
          go_roundw
          case rel => exact ⟨j + 1, F', by omega, by go_num, HO'.out, HOK2.out⟩
          case measure => simp only [intOf]; omega
        · have hji : j = i := by omega
          subst hji
          have hnl2 : ¬ (j : Int) < (j : Int) := by omega
          have HOU := Lib.hid (show (WQ (mσ X) (mω X) (mβ Bs) j).used = (T : Int) from by show ((wtot (mβ Bs) j : Nat) : Int) = T; rw [HT.out])
          have HWA := Lib.hid (show ((WQ (mσ X) (mω X) (mβ Bs) j).wait : Int) = (T : Int) from by rw [WQ_wait, HT.out])
          go_wp2_with fail
          refine (owait g F _ j _ HO.out.1 HOK.out (by omega)).mono ?_
          rintro e w3 ⟨rfl, p1, rfl⟩
          rw [HWA.out]
          go_wp2_with fail
          refine (oused_own g F _ W _ (HO.out.past (turned_drewN _ p1 [])) _ HOU.out).mono ?_
          rintro e w3 ⟨rfl, rfl⟩
          go_wp2_with fail
          have t5 := turned_alloc (turned_drewN wr p1 []) (.cells (flat cN (WC (mσ X) (mω X) 0)).toArray 55)
          have A5 := Lib.hid (obj.new (wr.drewN p1) 55 (flat cN (WC (mσ X) (mω X) 0)))
          have O5 := Lib.hid (show Own W ((wr.drewN p1).alloc (.cells (flat cN (WC (mσ X) (mω X) 0)).toArray 55)) g F (WE (mσ X) (mω X) (mβ Bs) j 0) from HO.out.past t5)
          have hWD : W.heap.size ≤ wr.heap.size := HO.out.2.2.2.2.2.1
          have hE0 : (.cells (flat cN (WC (mσ X) (mω X) 0)).toArray 55 : Obj) = .cells #[.int .u16 0, .int .u16 0, .int .u16 0, .int .u16 0, .int .u16 0, .int .u16 0, .int .u16 0, .int .u16 0, .int .u16 0, .int .u16 0, .int .u16 0, .int .u16 0, .int .u16 0, .int .u16 0, .int .u16 0, .int .u16 0] 55 := rfl
          rw [hE0] at A5 O5
          have hD : (wr.drewN p1).heap.size = wr.heap.size := rfl
          rw [hD] at A5
          generalize hw5 : (wr.drewN p1).alloc _ = w5 at A5 O5 ⊢
          generalize wr.heap.size = D at A5 hWD ⊢
          clear t5 hE0 hD hw5 HWA HOU
          go_loopw [14, 15] (fun tv iv wq => ∃ (q t : Nat) (F : List Nat), q ≤ j ∧ iv = .int .i64 (q : Int) ∧ tv = .int .i64 (t : Int) ∧ t ≤ wtot (mβ Bs) q ∧ Own W wq g F (WE (mσ X) (mω X) (mβ Bs) j q) ∧ (WE (mσ X) (mω X) (mβ Bs) j q).ok j ∧ obj wq D 55 (flat cN (WC (mσ X) (mω X) q))) (fun _ iv _ => j - (intOf iv).toNat)
          case atStart => exact ⟨0, 0, F, Nat.zero_le _, rfl, rfl, Nat.zero_le _, O5.out, HOK.out, A5.out⟩
          case round =>
            obtain ⟨q, t, F2, hq, rfl, rfl, htw, ho, hok, har⟩ := hrel
            have HO3 := Lib.hid ho
            have HOK3 := Lib.hid hok
            have HAR := Lib.hid har
            clear ho hok har
            have htt : wtot (mβ Bs) q ≤ T := by rw [← HT.out]; exact wtot_le hq
            by_cases hlt3 : q < j
            · obtain ⟨b, off, ba, bc, rfl, hs, hby, hcs⟩ := HAT.out q hlt3
              have HCS := Lib.hid hcs
              have HBY := Lib.hid hby
              have hln := HALL.out q hlt3
              have htn : wtot (mβ Bs) (q + 1) ≤ T := by rw [← HT.out]; exact wtot_le hlt3
              rw [wtot_succ] at htn
              obtain ⟨ln, hle⟩ : ∃ ln, (mβ Bs q).length = ln := ⟨_, rfl⟩
              obtain ⟨tq, htq⟩ : ∃ tq, wtot (mβ Bs) q = tq := ⟨_, rfl⟩
              rw [hle] at hln htn
              rw [htq] at htn htw htt
              have HLE := Lib.hid hle
              have HTQ := Lib.hid htq
              have hln1 := hln.1
              have hln2 := hln.2
              have hs0 := hs.1
              have hs1 := hs.2
              have hii : (q : Int) < (j : Int) := by omega
              have hi0 : (0 : Int) ≤ (q : Int) := by omega
              have hsm : mσ X q = mS X q % 16 := rfl
              have HSM := Lib.hid hsm
              generalize mS X q = sq at *
              have hW0 : WE (mσ X) (mω X) (mβ Bs) j q = WT X Bs j q 0 := by
                unfold WT
                rw [if_neg (by rw [HLE.out]; omega)]
                exact WE_start hlt3
              have O30 := Lib.hid (hW0 ▸ HO3.out)
              have K30 := Lib.hid (hW0 ▸ HOK3.out)
              clear hcs hby hln hle htq hs hsm hW0
              go_upto_region 29 with (fail)
              go_loopw [14, 16] (fun tv gv wz => ∃ (a t : Nat) (F : List Nat), a ≤ ln ∧ tv = .int .i64 (t : Int) ∧ t ≤ tq + a ∧ wz.ownsRow W.heap.size 5 1 gv a (flat cB ((mβ Bs q).take a)) ∧ (∀ k, gv.ownBlock = some k → k ∉ F) ∧ Own W wz g F (WT X Bs j q a) ∧ (WT X Bs j q a).ok j ∧ obj wz D 55 (flat cN (WC (mσ X) (mω X) q))) (fun _ gv _ => ln - slLen gv)
              case atStart => exact ⟨0, t, F2, Nat.zero_le _, rfl, by omega, World.ownsRow_nil _ _ _ _, by intro k hk; simp [Value.ownBlock] at hk, O30.out, K30.out, HAR.out⟩
              case round =>
                obtain ⟨al, t2, F3, hal, rfl, ht2, hrow, hgF, ho, hok, har⟩ := hrel
                obtain ⟨ga, gc, rfl, hg1, hg2, _⟩ := row_form hrow
                have HO4 := Lib.hid ho
                have HOK4 := Lib.hid hok
                have HAR4 := Lib.hid har
                have HROW := Lib.hid hrow
                have HGF := Lib.hid hgF
                clear ho hok har hrow hgF
                obtain ⟨c0, c1, c2, hlb⟩ := HCS.out _ HO4.out.2.2
                rw [HLE.out] at c2
                have HLB := Lib.hid hlb
                clear hlb
                by_cases hlt4 : al < ln
                · have hne : ¬ al = ln := by omega
                  have hWT : WT X Bs j q al = WS (mσ X) (mω X) (mβ Bs) j q al := by unfold WT; rw [if_neg (by rw [HLE.out]; exact hne)]
                  have O41 := Lib.hid (hWT ▸ HO4.out)
                  have K41 := Lib.hid (hWT ▸ HOK4.out)
                  have hal0 : (al : Int) < (ln : Int) := by omega
                  clear hWT
                  go_upto_if 122 with (fail)
                  go_cut [17] (fun sv wc => ∃ sz : Nat, sv = .int .i64 (sz : Int) ∧ 1 ≤ sz ∧ sz ≤ 256 ∧ wc = wr)
                  case first =>
                    by_cases htz : t2 < nz
                    · obtain ⟨zb, zo, rfl, _, zc⟩ := (HZ.out.none_ HO4.out.2.2).cell t2 (by rw [HNZ.out]; exact htz)
                      obtain ⟨hz0, hz1⟩ := HZ.out.2 _ (List.getElem_mem (by rw [HNZ.out]; exact htz : t2 < Z.length))
                      generalize Z[t2]'(by rw [HNZ.out]; exact htz) = zz at *
                      have dz : decide ((t2 : Int) < (nz : Int)) = true := decide_eq_true (by omega)
                      have dz2 : (t2 : Int) < (nz : Int) := by omega
                      have dz3 : (0 : Int) ≤ (t2 : Int) := by omega
                      have s0 : IntKind.i64.wrap zz = zz := IntWalk.i64_in _ (by omega)
                      have s1 : IntKind.i64.wrap (1 + zz) = 1 + zz := IntWalk.i64_in _ (by omega)
                      go_wp2_with fail
                      go_meet
                      exact ⟨(1 + zz).toNat, congrArg (Value.int .i64) (by omega), by omega, by omega, rfl⟩
                    · have dz : decide ((t2 : Int) < (nz : Int)) = false := decide_eq_false (by omega)
                      go_wp2_with fail
                      go_meet
                      exact ⟨1, rfl, by omega, by omega, rfl⟩
                  case rest =>
                  obtain ⟨sz, rfl, hsz1, hsz2, rfl⟩ := hcut
                  have s2 : IntKind.i64.wrap ((t2 : Int) + 1) = (t2 : Int) + 1 := IntWalk.i64_in _ (by omega)
                  obtain ⟨lf, hlf⟩ : ∃ lf, al + lf = ln := ⟨ln - al, by omega⟩
                  have HSZ := Lib.hid (show ((WS (mσ X) (mω X) (mβ Bs) j q al).size : Int) = (lf : Int) from by rw [WS_size, HLE.out]; omega)
                  obtain ⟨k, hk⟩ : ∃ k : Nat, (k : Int) = min (sz : Int) (lf : Int) := ⟨min sz lf, by omega⟩
                  have HLF := Lib.hid hlf
                  have HKM := Lib.hid hk
                  have HNX := Lib.hid (show (WS (mσ X) (mω X) (mβ Bs) j q al).next (wfr (mσ X) (mω X) (mβ Bs) q al) (wrest (mσ X) (mω X) (mβ Bs) j (q + 1)) k = WT X Bs j q (al + k) from by rw [WS_next (by omega) (by rw [HLE.out]; omega)]; rfl)
                  have HPC := Lib.hid (show (WS (mσ X) (mω X) (mβ Bs) j q al).piece (wfr (mσ X) (mω X) (mβ Bs) q al) k = ⟨0, mσ X q, wnum (mσ X) (mω X) q, !mω X q, decide (al = 0), decide (al + k = ln), ((mβ Bs q).drop al).take k⟩ from by unfold QS.piece; rw [wfr_s, WS_num, wfr_o, wfr_at, wfr_B, HLE.out])
                  have HKL := Lib.hid (show (k : Int) = min (sz : Int) ((wfr (mσ X) (mω X) (mβ Bs) q al).left : Int) from by rw [wfr_left, HLE.out, hk]; congr 1; omega)
                  have HKN := Lib.hid (QS.next_ok K41.out rfl k (by rw [wfr_left, HLE.out]; omega))
                  rw [HNX.out] at HKN
                  clear hk hlf c0 c1 c2
                  go_wp2_with fail
                  refine (osize g F3 _ j _ O41.out.1 K41.out).mono ?_
                  rintro e w6 ⟨rfl, p2, rfl⟩
                  rw [HSZ.out]
                  go_wp2_with fail
                  refine (onext_own g F3 _ _ j (sz : Int) _ _ k _ W _ (O41.out.past (turned_drewN _ p2 [])) K41.out (by omega) rfl (by omega) HKL.out HNX.out HPC.out).mono ?_
                  rintro e w7 ⟨da, dc, rfl, hdl, hr7, hl7, hnF, F4, ho7, hsub, t7⟩
                  rw [wfr_id]
                  have t8 := turned_alloc (turned_refl w7 []) (.cells #[.int .u32 0, .int .u16 (mσ X q), .int .u16 (wnum (mσ X) (mω X) q), .bool (!mω X q), .bool (decide (al = 0)), .bool (decide (al + k = ln)), .slice da k dc] 34)
                  have D8 := Lib.hid (obj.new w7 34 [.int .u32 0, .int .u16 (mσ X q), .int .u16 (wnum (mσ X) (mω X) q), .bool (!mω X q), .bool (decide (al = 0)), .bool (decide (al + k = ln)), .slice da k dc])
                  have O8 := Lib.hid (ho7.past t8)
                  have L8 := Lib.hid (hl7.none_ t8)
                  have hgr := row_past HROW.out (turned_drewN wc p2 []) (by simp)
                  have R8 := Lib.hid (row_past (row_past hgr t7 (fun q hq e => HGF.out q hq e)) t8 (by simp))
                  have har2 := HAR4.out.past (turned_drewN wc p2 []) (by simp)
                  have hD4 : D ∉ F3 := HO4.out.1.ne HAR4.out (by decide) (by decide) (by decide) (by decide) (by decide)
                  have A8 := Lib.hid ((har2.past t7 hD4).past t8 (by simp))
                  have G8 := Lib.hid (show ∀ k', (Value.slice ga al gc).ownBlock = some k' → k' ∉ F4 from fun k' h1 h2 => HGF.out k' h1 (hsub k' h2))
                  have HDL := Lib.hid hdl
                  have h8 : w7.heap.size ≠ D := fun e => by
                    have h1 := (har2.past t7 hD4).lt
                    omega
                  simp only
                  generalize hw8 : w7.alloc (.cells #[.int .u32 0, .int .u16 (mσ X q), .int .u16 (wnum (mσ X) (mω X) q), .bool (!mω X q), .bool (decide (al = 0)), .bool (decide (al + k = ln)), .slice da k dc] 34) = w8 at D8 O8 L8 R8 A8
                  generalize hD8 : w7.heap.size = D2 at D8 h8
                  clear t8 hgr har2 hD4 ho7 hl7 hnF hsub hr7 t7 hdl
                  obtain ⟨c0, c1, c2, _⟩ := HCS.out _ O8.out.2.2
                  rw [HLE.out] at c2
                  go_upto_region 37 with (fail)
                  rw [HSM.out] at D8
                  have d0 := D8.out.cell 0 rfl
                  have d1' := D8.out.cell 1 rfl
                  have d3 := D8.out.cell 3 rfl
                  have d4 := D8.out.cell 4 rfl
                  have d6 := D8.out.cell 6 rfl
                  have s3 : IntKind.i64.wrap ((ln : Int) - (al : Int)) = (lf : Int) := by have := HLF.out; rw [IntWalk.i64_in _ (by omega)]; omega
                  have dal : ((al : Int) == 0) = decide (al = 0) := by rw [Bool.eq_iff_iff, beq_iff_eq, decide_eq_true_eq]; omega
                  have dw : ((!mω X q) == mω X q) = false := by cases mω X q <;> rfl
                  generalize hDAL : decide (al = 0) = fal at *
                  have HDAL := Lib.hid hDAL
                  clear hDAL
                  -- REGION 37
                  refine whole37 b off j cap al q ln ga gc D2 w8 sz lf k bc dc (sq % 16) fal (mω X q) ba da hi0 hii c1 c2 d0 d1' d3 d4 d6 s3 dal dw HKM.out ?_
                  intro u146 u147 u148 u149 u150 u151 u152 u153 u154 u155 u156 u157 u158 u159 u160 u161 u162 u163 u164 u165 u166 u167 u168 u169 u170 u171 u172 u173 u174 u175 u176 u177 u178 u179 u180 u181 u182 u183 u184 u185 u186 u187 u188 u189 u190 u191 u192 u193 u194 u195 u196 u197 u198 u199 u200 u201 u202 p3
                  obtain ⟨w9, hw9⟩ : ∃ w9, w8.drewN p3 = w9 := ⟨_, rfl⟩
                  have t9 : turned w8 w9 [] := hw9 ▸ turned_drewN w8 p3 []
                  rw [hw9]
                  have O9 := Lib.hid (O8.out.past t9)
                  have R9 := Lib.hid (row_past R8.out t9 (by simp))
                  have A9 := Lib.hid (A8.out.past t9 (by simp))
                  have D9 := Lib.hid (D8.out.past t9 (by simp))
                  have L9 := Lib.hid (L8.out.none_ t9)
                  obtain ⟨m0, m1, m2, _⟩ := HCS.out _ O9.out.2.2
                  rw [HLE.out] at m2
                  have e2 := D9.out.cell 2 rfl
                  clear hw9 t9 c0 c1 c2 d0 d1' d3 d4 d6 s3 dal dw O8 R8 A8 D8 L8
                  have hsq0 : (0 : Int) ≤ sq % 16 := by omega
                  have hsq1 : sq % 16 < 16 := by omega
                  have ho1 : mω X q = true → w9.cell? ⟨D, (sq % 16).toNat, none⟩ = some (.int .u16 (wnum (mσ X) (mω X) q)) := fun ho => by
                    have hlt5 : (sq % 16).toNat < (WC (mσ X) (mω X) q).length := by rw [WC_len]; omega
                    rw [A9.out.cell (sq % 16).toNat (flatN_at _ _ hlt5)]
                    unfold wnum
                    rw [if_pos ho, HSM.out]
                    simp [hlt5]
                  have ho2 : mω X q = false → wnum (mσ X) (mω X) q = 0 := fun ho => by unfold wnum; rw [if_neg (by rw [ho]; decide)]
                  have HO1 := Lib.hid ho1
                  have HO2 := Lib.hid ho2
                  clear ho1 ho2
                  go_upto_region 39 with (fail)
                  refine whole39 b off j cap al q ln ga gc D2 w9 D (sq % 16) (wnum (mσ X) (mω X) q) (mω X q) hi0 hii m1 e2 hsq0 hsq1 HO1.out HO2.out ?_
                  intro u204 u205 u206 u207 u208 u209 u210 u211 u212 u213 u214 u215 u216 u217 u218 u219 u220 u221 u222 u223 u224 u225 u226 u227 u228 p4
                  obtain ⟨w10, hw10⟩ : ∃ w10, w9.drewN p4 = w10 := ⟨_, rfl⟩
                  have t10 : turned w9 w10 [] := hw10 ▸ turned_drewN w9 p4 []
                  rw [hw10]
                  have O10 := Lib.hid (O9.out.past t10)
                  have R10 := Lib.hid (row_past R9.out t10 (by simp))
                  have A10 := Lib.hid (A9.out.past t10 (by simp))
                  have D10 := Lib.hid (D9.out.past t10 (by simp))
                  have l10 := L9.out.none_ t10
                  have L10 := Lib.hid (show Lies w10 1 (.slice da k dc) k (flat cB (((mβ Bs q).drop al).take k)) from by have := l10.1; rw [HDL.out] at this; exact this)
                  have d6 := D10.out.cell 6 rfl
                  obtain ⟨i0, hi0', hz0, hz1, hz2⟩ := info_parts infoB
                  have hkl : al + k ≤ ln := by have h1 := HKM.out; have h2 := HLF.out; omega
                  have hk1 : 1 ≤ k := by have h1 := HKM.out; have h2 := HLF.out; omega
                  have hbs : W.heap.size ≤ w10.heap.size := O10.out.2.2.2.2.2.1
                  clear hw10 t10 m0 m1 m2 e2 l10 O9 R9 A9 D9 L9 HO1 HO2
                  go_upto_region 42 with (first | (at_builtin; go_loud (refine wpList_append_lies' _ rfl _ _ 29 rfl W.heap.size 5 i0 (.int .u8 0) 1 1 Try.underlying29 hi0' hz0 hz1 hz2 rfl (by decide) (.slice ga al gc) al (flat cB ((mβ Bs q).take al)) rfl R10.out (.slice da k dc) k (flat cB (((mβ Bs q).drop al).take k)) rfl L10.out (flat_one cB_one _) (by unfold maxLen; omega) (by omega) hbs ?_; intro v' wA ha hg hl'; obtain ⟨ga2, gc2, rfl, _, _, _⟩ := row_form ha; have RA := Lib.hid ha; have HGA := Lib.hid hg; have HLA := Lib.hid hl'; clear ha hg hl')) | fail)
                  have tA : turned w10 wA (Value.slice ga al gc).ownBlock.toList := turned_grown (turned_refl _ _) HGA.out (fun k' e => .inl (Option.mem_toList.2 e))
                  have O11 := Lib.hid (O10.out.apart tA (fun k' hk' => ⟨(row_lt0 R10.out k' (Option.mem_toList.1 hk')).1, G8.out k' (Option.mem_toList.1 hk')⟩))
                  have A11 := Lib.hid (A10.out.past tA (fun e => row_ne R10.out A10.out (by decide) (Option.mem_toList.1 e)))
                  have D11 := Lib.hid (D10.out.past tA (fun e => row_ne R10.out D10.out (by decide) (Option.mem_toList.1 e)))
                  have R11 := Lib.hid (show wA.ownsRow W.heap.size 5 1 (.slice ga2 (al + k) gc2) (al + k) (flat cB ((mβ Bs q).take (al + k))) from by rw [List.take_add, flat_app]; exact RA.out)
                  have G11 := Lib.hid (show ∀ k', (Value.slice ga2 (al + k) gc2).ownBlock = some k' → k' ∉ F4 from fun k' h1 h2 => by
                    rcases HLA.out with e | e
                    · exact G8.out k' (e ▸ h1) h2
                    · rw [e] at h1
                      cases h1
                      have := O10.out.1.lt _ h2
                      omega)
                  obtain ⟨m0, m1, m2, _⟩ := HCS.out _ O11.out.2.2
                  rw [HLE.out] at m2
                  have e5 := D11.out.cell 5 rfl
                  have dl : (((al + k : Nat) : Int) == (ln : Int)) = decide (al + k = ln) := by rw [Bool.eq_iff_iff, beq_iff_eq, decide_eq_true_eq]; omega
                  clear d6 tA R10 A10 D10 O10 L10 RA HGA HLA
                  refine whole42 b off j cap (al + k) q ln ga2 gc2 D2 wA bc ba (decide (al + k = ln)) hi0 hii m2 e5 dl ?_
                  intro u234 u235 u236 u237 u238 u239 u240 u241 u242 u243 u244 p5
                  obtain ⟨w12, hw12⟩ : ∃ w12, wA.drewN p5 = w12 := ⟨_, rfl⟩
                  have t12 : turned wA w12 [] := hw12 ▸ turned_drewN wA p5 []
                  rw [hw12]
                  have O12 := Lib.hid (O11.out.past t12)
                  have R12 := Lib.hid (row_past R11.out t12 (by simp))
                  have A12 := Lib.hid (A11.out.past t12 (by simp))
                  clear hw12 t12 m0 m1 m2 e5 dl O11 R11 A11
                  have HKN' := HKN
                  go_wp2_with fail
                  go_roundw
                  case rel => exact ⟨al + k, t2 + 1, F4, hkl, by go_num, by omega, R12.out, G11.out, O12.out, HKN'.out, A12.out⟩
                  case measure => simp only [slLen]; omega
                · have hal2 : al = ln := by omega
                  subst hal2
                  have hWE : WT X Bs j q al = WE (mσ X) (mω X) (mβ Bs) j (q + 1) := by unfold WT; rw [if_pos HLE.out.symm]
                  have O5x := Lib.hid (hWE ▸ HO4.out)
                  have K5x := Lib.hid (hWE ▸ HOK4.out)
                  have hcv := fun w' (t : turned wr w' []) => conv_lies (show LiesB w' (.slice ga al gc) ((mβ Bs q).take al) from ⟨by have := Lies.row (row_past HROW.out t (by simp)); rw [show ((mβ Bs q).take al).length = al by rw [List.length_take, HLE.out]; omega]; exact this, fun y hy => HBY.out y (List.mem_of_mem_take hy)⟩)
                  rw [List.take_of_length_le (by rw [HLE.out]; exact Nat.le_refl _)] at hcv
                  have hcv2 := fun w' (t : turned wr w' []) => conv_lies (HLB.out.none_ t)
                  rw [HLE.out] at hcv2
                  have HCV := Lib.hid hcv
                  have HCV2 := Lib.hid hcv2
                  have hnl4 : ¬ (al : Int) < (al : Int) := by omega
                  clear hWE hcv hcv2
                  go_upto_region 44 with (fail)
                  refine whole44 b off j cap al q al ga gc 0 wr bc ba _ hi0 hii c2 (fun m => HCV.out _ (turned_drewN wr m [])) (fun m => HCV2.out _ (turned_drewN wr m [])) ?_
                  intro u246 u247 u248 u249 u250 u251 u252 u253 p3
                  obtain ⟨w9, hw9⟩ : ∃ w9, wr.drewN p3 = w9 := ⟨_, rfl⟩
                  have t9 : turned wr w9 [] := hw9 ▸ turned_drewN wr p3 []
                  rw [hw9]
                  have O9 := Lib.hid (O5x.out.past t9)
                  have A9 := Lib.hid (HAR4.out.past t9 (by simp))
                  clear hw9 t9 c0 c1 c2
                  obtain ⟨m0, m1, m2, _⟩ := HCS.out _ O9.out.2.2
                  have htw2 : t2 ≤ wtot (mβ Bs) (q + 1) := by rw [wtot_succ, HTQ.out, HLE.out]; exact ht2
                  have HTW2 := Lib.hid htw2
                  have hWC : WC (mσ X) (mω X) (q + 1) = if mω X q = true then (WC (mσ X) (mω X) q).set (mσ X q).toNat (((WC (mσ X) (mω X) q).getD (mσ X q).toNat 0 + 1) % 65536) else WC (mσ X) (mω X) q := rfl
                  have HWC := Lib.hid hWC
                  clear htw2 hWC
                  cases hom : mω X q with
                  | false =>
                    rw [hom] at m1
                    have A10 := Lib.hid (show obj w9 D 55 (flat cN (WC (mσ X) (mω X) (q + 1))) from by rw [HWC.out, hom]; exact A9.out)
                    clear hom
                    go_wp2_with fail
                    go_roundw
                    case rel => exact ⟨q + 1, t2, F3, by omega, by go_num, rfl, HTW2.out, O9.out, K5x.out, A10.out⟩
                    case measure => simp only [intOf]; omega
                  | true =>
                    rw [hom] at m1
                    have hlt5 : (mσ X q).toNat < (WC (mσ X) (mω X) q).length := by rw [WC_len, HSM.out]; omega
                    have hsq0 : (0 : Int) ≤ sq % 16 := by omega
                    have hsq1 : sq % 16 < 16 := by omega
                    obtain ⟨nn, hnn⟩ : ∃ nn, (WC (mσ X) (mω X) q).getD (mσ X q).toNat 0 = nn := ⟨_, rfl⟩
                    have hnr : 0 ≤ nn ∧ nn < 65536 := by
                      rw [← hnn]
                      have := WC_in (σ := mσ X) (ω := mω X) q _ (List.getElem_mem hlt5)
                      simpa [hlt5] using this
                    obtain ⟨hn0, hn1⟩ := hnr
                    have a0 : w9.cell? ⟨D, (sq % 16).toNat, none⟩ = some (.int .u16 nn) := by
                      have hlt6 : (sq % 16).toNat < (WC (mσ X) (mω X) q).length := by rw [WC_len]; omega
                      rw [A9.out.cell (sq % 16).toNat (flatN_at _ _ hlt6), ← hnn, HSM.out]
                      simp [hlt6]
                    have f0 := A9.out.free (sq % 16).toNat
                    have sw : IntKind.u16.wrap (nn + 1) = (nn + 1) % 65536 := by simp [IntKind.wrap, IntKind.signed, IntKind.bits]
                    have hA10 := A9.out.set (sq % 16).toNat (.int .u16 ((nn + 1) % 65536))
                    have e10 := flat_set cN_len (WC (mσ X) (mω X) q) (mσ X q).toNat hlt5 0 (by omega) (.int .u16 ((nn + 1) % 65536)) ((nn + 1) % 65536) rfl
                    rw [Nat.mul_one, Nat.add_zero, HSM.out] at e10
                    rw [e10] at hA10
                    have A10 := Lib.hid (show obj (w9.setCell ⟨D, (sq % 16).toNat, none⟩ (.int .u16 ((nn + 1) % 65536))) D 55 (flat cN (WC (mσ X) (mω X) (q + 1))) from by rw [HWC.out, if_pos hom, hnn, HSM.out]; exact hA10)
                    have hDF : D ∉ F3 := O9.out.1.ne A9.out (by decide) (by decide) (by decide) (by decide) (by decide)
                    have O10 := Lib.hid (O9.out.apart (turned_set (turned_refl w9 [D]) (List.mem_singleton.2 rfl) (.int .u16 ((nn + 1) % 65536)) : turned w9 (w9.setCell ⟨D, (sq % 16).toNat, none⟩ (.int .u16 ((nn + 1) % 65536))) [D]) (fun k' hk' => by rw [List.mem_singleton.1 hk']; exact ⟨hWD, hDF⟩))
                    clear hA10 e10 hom hDF hnn
                    go_wp2_with fail
                    go_roundw
                    case rel => exact ⟨q + 1, t2, F3, by omega, by go_num, rfl, HTW2.out, O10.out, K5x.out, A10.out⟩
                    case measure => simp only [intOf]; omega
            · have hqj : q = j := by omega
              subst hqj
              have hnl3 : ¬ (q : Int) < (q : Int) := by omega
              have hLn : (WE (mσ X) (mω X) (mβ Bs) q q).L = [] := wrest_end q
              have hwt : (WE (mσ X) (mω X) (mβ Bs) q q).wait = 0 := by unfold QS.wait; rw [hLn]; rfl
              have hus : ({ WE (mσ X) (mω X) (mβ Bs) q q with used := freed (WE (mσ X) (mω X) (mβ Bs) q q).used (T : Int) } : QS).used = 0 := by
                show freed ((wtot (mβ Bs) q : Nat) : Int) (T : Int) = 0
                rw [HT.out]
                unfold freed
                omega
              have HLN := Lib.hid hLn
              have HWT := Lib.hid hwt
              have HUS := Lib.hid hus
              have HKF := Lib.hid (QS.free_ok HOK3.out (T : Int))
              clear hLn hwt hus
              go_wp2_with fail
              refine (onext_none g F2 _ q 1 _ HO3.out.1 HOK3.out (by omega) (.inl HLN.out)).mono ?_
              rintro e w6 ⟨rfl, t6⟩
              unfold noData
              go_wp2_with fail
              have O6 := Lib.hid ((HO3.out.past t6).past (turned_alloc (turned_refl w6 []) (.cells #[.int .u32 0, .int .u16 0, .int .u16 0, .bool false, .bool false, .bool false, .slice none 0 0] 34)))
              clear t6
              refine (ofree_own g F2 _ _ q (T : Int) W _ O6.out HOK3.out rfl).mono ?_
              rintro e w7 ⟨rfl, ho7, _⟩
              have O7 := Lib.hid ho7
              clear ho7
              go_wp2_with fail
              refine (owait g F2 _ q _ O7.out.1 HKF.out (by omega)).mono ?_
              rintro e w8 ⟨rfl, p1, rfl⟩
              have hw0 : (({ WE (mσ X) (mω X) (mβ Bs) q q with used := freed (WE (mσ X) (mω X) (mβ Bs) q q).used (T : Int) } : QS).wait : Int) = 0 := by
                show ((WE (mσ X) (mω X) (mβ Bs) q q).wait : Int) = 0
                rw [HWT.out]
                rfl
              rw [hw0]
              clear hw0
              go_wp2_with fail
              refine (oused_own g F2 _ W _ (O7.out.past (turned_drewN _ p1 [])) _ HUS.out).mono ?_
              rintro e w9 ⟨rfl, rfl⟩
              go_wp2_with fail
              refine (works20 _).mono ?_
              rintro e w9 ⟨rfl, tt⟩
              have hbel : Below W.heap.size W w9 := below_turned (Below.refl _ _) (turned_trans (O7.out.past (turned_drewN _ p1 [])).2.2 tt) (by simp)
              have HBEL := Lib.hid hbel
              clear hbel tt
              go_wp2_with fail
              go_ret
              exact ⟨rfl, HBEL.out⟩
end Go.Proofs.Ytibnjakiagcopaa
