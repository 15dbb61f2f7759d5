/- The document's Expire. Conditions: the queue lies in memory. -/
import Derived.Test.YtibnjakiagcopaaOutqRef8
namespace Go.Proofs.Ytibnjakiagcopaa
open Go.RowKit Go.Deep
set_option linter.unusedVariables false
set_option linter.unusedSimpArgs false

set_option maxRecDepth 100000 in
set_option maxHeartbeats 2000000 in
theorem rexpire (b : Nat) (G : List Nat) (S : QS) (n : Nat) (now : Int) (w : World) (h : refIs w b G S) (hk : S.ok n) (hn : n ≤ 1000000) :
    Calls Try.prog 34 #[.pointer (some ⟨b, 0, none⟩), .int .i64 now] w fun e w' => ∃ dv, e = .returned (.tuple #[.agg #[.int .u32 0, .int .u16 (XS.zero.run now S.L).s, .int .u16 (XS.zero.run now S.L).n, .bool (XS.zero.run now S.L).u, .bool false, .bool (XS.zero.run now S.L).some, dv], .int .i64 (XS.zero.run now S.L).id, .bool (XS.zero.run now S.L).some]) ∧
      w'.ownsRow w.heap.size 5 1 dv (XS.zero.run now S.L).B.length (flat cB (XS.zero.run now S.L).B) ∧ (∃ G', refIs w' b G' (S.expire now) ∧ grewFoot w G G') ∧ turned w w' G := by
  obtain ⟨v, sv, Z, rfl, hp⟩ := h
  have hp : refP w b v sv Z S := hp
  obtain ⟨va, vc, rfl, hvc1, hvc2, hva⟩ := hp.2.1.form
  have hlt := hp.is.lt
  have hZ : Z.length = S.L.length := by rw [← hp.2.2.2.1, List.length_map]
  have t0 := turned_alloc (turned_alloc (turned_refl w []) (.cells #[.int .u32 0, .int .u16 0, .int .u16 0, .bool false, .bool false, .bool false, .slice none 0 0] 34)) (.cells #[.int .u32 0, .int .u16 0, .int .u16 0, .bool false, .bool false, .bool false, .slice none 0 0] 34)
  have s1 : (w.alloc (.cells #[.int .u32 0, .int .u16 0, .int .u16 0, .bool false, .bool false, .bool false, .slice none 0 0] 34)).heap.size = w.heap.size + 1 := by simp
  have oR := (obj.new w 34 [.int .u32 0, .int .u16 0, .int .u16 0, .bool false, .bool false, .bool false, .slice none 0 0]).alloc (.cells #[.int .u32 0, .int .u16 0, .int .u16 0, .bool false, .bool false, .bool false, .slice none 0 0] 34)
  have oD := obj.new (w.alloc (.cells #[.int .u32 0, .int .u16 0, .int .u16 0, .bool false, .bool false, .bool false, .slice none 0 0] 34)) 34 [.int .u32 0, .int .u16 0, .int .u16 0, .bool false, .bool false, .bool false, .slice none 0 0]
  rw [s1] at oD
  have hE : RE w ((w.alloc (.cells #[.int .u32 0, .int .u16 0, .int .u16 0, .bool false, .bool false, .bool false, .slice none 0 0] 34)).alloc (.cells #[.int .u32 0, .int .u16 0, .int .u16 0, .bool false, .bool false, .bool false, .slice none 0 0] 34)) b (.slice va Z.length vc) sv Z S XS.zero (.slice none 0 0) (.slice none 0 0) [] :=
    ⟨by have := hp.past t0 (by simp); rw [show ({ S with used := S.used - XS.zero.gone } : QS) = S by show ({ S with used := S.used - 0 } : QS) = S; rw [Int.sub_zero]]; exact this, World.ownsRow_nil _ _ _ _, oD, World.ownsRow_nil _ _ _ _, oR, hlt, turned_more t0 (by simp)⟩
  have hl := hk.l
  have HE := Lib.hid hE
  have HK := Lib.hid hk
  have HP := Lib.hid hp
  have HZ := Lib.hid hZ
  have HA := Lib.hid hva
  have hu0 := hk.u0
  have hu1 := hk.u1
  have hr1 := hk.r1
  have hzn : Z.length ≤ 1000000 := by omega
  have hXg : ∀ j, 0 ≤ (XS.zero.run now (S.L.take j)).gone ∧ (XS.zero.run now (S.L.take j)).gone ≤ 1000000 * 1048576 := fun j => by
    have h1 := XS.run_gone (now := now) (L := S.L.take j) (X := XS.zero) (fun x hx => hk.it x (List.mem_of_mem_take hx))
    have h2 : ((S.L.take j).length : Int) ≤ 1000000 := by have := List.length_take_le j S.L; rw [List.length_take]; omega
    have h3 : XS.zero.gone = 0 := rfl
    rw [h3] at h1
    have h4 : ((S.L.take j).length : Int) * 1048576 ≤ 1000000 * 1048576 := Int.mul_le_mul_of_nonneg_right h2 (by omega)
    omega
  have HXG := Lib.hid hXg
  clear hE oR oD t0 s1 hk hp hZ hva hlt hl hXg
  go_enter Try.func34, Try.ntmps34
  go_wp2_with fail
  go_loopw [8, 9, 10, 11] (fun idv smv rv iv wr => ∃ j : Nat, j ≤ Z.length ∧ iv = .int .i64 (j : Int) ∧ idv = .int .i64 (XS.zero.run now (S.L.take j)).id ∧ smv = .bool (XS.zero.run now (S.L.take j)).some ∧ ∃ dv, RE w wr b (.slice va Z.length vc) sv Z S (XS.zero.run now (S.L.take j)) rv dv (keptY now (Z.take j))) (fun _ _ _ iv _ => Z.length - (intOf iv).toNat)
  case atStart => exact ⟨0, Nat.zero_le _, rfl, rfl, rfl, .slice none 0 0, HE.out⟩
  case round =>
    obtain ⟨j, hj, rfl, rfl, rfl, dv, hE⟩ := hrel
    have HN := Lib.hid hE
    clear hE
    have c0 := HN.out.p.1.cell 0 rfl
    by_cases hlt : j < Z.length
    · obtain ⟨gi, off, rfl⟩ := HA.out (by omega)
      obtain ⟨z, hze⟩ : ∃ z, Z[j]'hlt = z := ⟨_, rfl⟩
      obtain ⟨bv, x⟩ := z
      have hzm : (bv, x) ∈ Z := hze ▸ List.getElem_mem hlt
      have hz := HN.out.p.2.2.2.2 _ hzm
      obtain ⟨ba, bc, hbv, hb1, hb2, _⟩ := row_form hz
      simp only at hbv hb1
      subst hbv
      have hra := HN.out.p.2.1.rangeOf j hlt
      rw [hze] at hra
      have RA := Lib.hid (show wr.rangeAt gi (off + j * 7) [.int .u16 x.s, .bool x.o, .slice ba x.B.length bc, .int .i64 x.id, .int .i64 x.un, .int .i64 (x.at_ : Int), .int .u16 x.ssn] from hra)
      have hji : (j : Int) < (Z.length : Int) := by omega
      have hj0 : (0 : Int) ≤ (j : Int) := by omega
      have hjs : j < S.L.length := by rw [← HZ.out]; exact hlt
      have hxl : S.L[j]'hjs = x := by simp only [← HP.out.2.2.2.1, List.getElem_map, hze]
      have hstep := XS.run_take now XS.zero S.L j hjs
      rw [hxl] at hstep
      have hx := HK.out.it x (hxl ▸ List.getElem_mem hjs)
      have hb3 := hx.b1
      have hb4 := hx.a1
      have hXg := HXG.out j
      have hkn := fun hg => keptY_no (now := now) hlt hg
      have hky := fun hg => keptY_yes (now := now) hlt hg
      rw [hze] at hkn hky
      have HKN := Lib.hid hkn
      have HKY := Lib.hid hky
      have HST := Lib.hid hstep
      have HX := Lib.hid hx
      have HZM := Lib.hid hzm
      clear hz hra hzm hxl hstep hx hze hkn hky
      go_upto_region 11 with (first | (refine wpList_load_mid rfl _ _ rfl gi (off + j * 7) rfl _ _ RA.out Try.underlying78 rfl (by kernel_rfl) ?_) | fail)
      have oX := obj.new wr 78 [.int .u16 x.s, .bool x.o, .slice ba x.B.length bc, .int .i64 x.id, .int .i64 x.un, .int .i64 (x.at_ : Int), .int .u16 x.ssn]
      have tX := turned_alloc (turned_refl wr []) (.cells #[.int .u16 x.s, .bool x.o, .slice ba x.B.length bc, .int .i64 x.id, .int .i64 x.un, .int .i64 (x.at_ : Int), .int .u16 x.ssn] 78)
      generalize wr.alloc _ = wx at oX tX ⊢
      have NX := Lib.hid (HN.out.past tX)
      have OX := Lib.hid oX
      have hxb : w.heap.size + 1 < wr.heap.size := HN.out.d.lt
      have HXB := Lib.hid hxb
      clear oX tX c0 hxb
      go_cut [40] (fun t wc => t = .bool (!x.goes now) ∧ wc = wx)
      case first =>
        have x4 := OX.out.cell 4 rfl
        by_cases h1 : x.un < 1
        · have d1 : decide (x.un < 1) = true := decide_eq_true h1
          go_wp2_with fail
          go_meet
          exact ⟨by rw [goes_cases, d1]; rfl, rfl⟩
        · have d1 : decide (x.un < 1) = false := decide_eq_false h1
          go_wp2_with fail
          go_meet
          exact ⟨by rw [goes_cases, d1]; rfl, rfl⟩
      case rest =>
      obtain ⟨rfl, rfl⟩ := hcut
      cases hgo : x.goes now with
      | false =>
        have tl := turned_alloc (turned_refl wc []) (.cells #[.int .u16 x.s, .bool x.o, .slice ba x.B.length bc, .int .i64 x.id, .int .i64 x.un, .int .i64 (x.at_ : Int), .int .u16 x.ssn] 78)
        have NL := Lib.hid (NX.out.past tl)
        have HYL := Lib.hid (show Lies (wc.alloc (.cells #[.int .u16 x.s, .bool x.o, .slice ba x.B.length bc, .int .i64 x.id, .int .i64 x.un, .int .i64 (x.at_ : Int), .int .u16 x.ssn] 78)) 7 (.slice (some ⟨wc.heap.size, 0, none⟩) 1 1) 1 (flat cY [((.slice ba x.B.length bc : Value), x)]) from Lies.lit (obj.new wc 78 [.int .u16 x.s, .bool x.o, .slice ba x.B.length bc, .int .i64 x.id, .int .i64 x.un, .int .i64 (x.at_ : Int), .int .u16 x.ssn]) rfl (by omega))
        have HONE := Lib.hid (flatY_one (w := wc) (Z := [((.slice ba x.B.length bc : Value), x)]) (fun z hz => by rw [List.mem_singleton.1 hz]; exact NX.out.p.2.2.2.2 _ HZM.out))
        have hkl : (keptY now (Z.take j)).length ≤ 1000000 := by
          have h1 := List.length_filter_le (fun z : YT => !z.2.goes now) (Z.take j)
          have h2 : (Z.take j).length ≤ j := by rw [List.length_take]; omega
          unfold keptY
          omega
        obtain ⟨i1, hi1, hy0, hy1, hy2⟩ := info_parts infoY
        have hwl : w.heap.size ≤ (wc.alloc (.cells #[.int .u16 x.s, .bool x.o, .slice ba x.B.length bc, .int .i64 x.id, .int .i64 x.un, .int .i64 (x.at_ : Int), .int .u16 x.ssn] 78)).heap.size := NL.out.t.2.2.2.1
        have TL := Lib.hid tl
        have HWL := Lib.hid hwl
        have hkn := HKN.out hgo
        have HK2 := Lib.hid hkn
        have hst := HST.out
        rw [XS.step_no hgo] at hst
        have HS2 := Lib.hid hst
        clear tl hwl hkn hst hgo
        go_wp2_with (first
          | (refine wpList_load_row rfl _ _ rfl wr.heap.size rfl _ _ _ _ OX.out Try.underlying78 rfl (by kernel_rfl) ?_)
          | (at_builtin; go_loud (refine wpList_append_lies' _ rfl _ _ 74 rfl w.heap.size 78 i1 _ 7 64 Try.underlying74 hi1 hy0 hy1 hy2 rfl (by decide) _ _ _ rfl NL.out.k (.slice (some ⟨wc.heap.size, 0, none⟩) 1 1) 1 (flat cY [((.slice ba x.B.length bc : Value), x)]) rfl HYL.out HONE.out (by unfold maxLen; omega) (by omega) HWL.out ?_; intro v' wA ha hg hl'; have NA := Lib.hid (NL.out.keep (R' := keptY now (Z.take j) ++ [((.slice ba x.B.length bc : Value), x)]) (turned_grown (turned_refl _ _) hg (fun k e => .inl (Option.mem_toList.2 e))) (by rw [List.length_append, List.length_singleton, flat_app]; exact ha)); clear ha hg hl'))
          | fail)
        go_roundw
        case rel => exact ⟨j + 1, by omega, by go_num, by rw [HS2.out], by rw [HS2.out], dv, by rw [HS2.out, HK2.out]; exact NA.out⟩
        case measure => simp only [intOf]; omega
      | true =>
        obtain ⟨wd, hwd⟩ : ∃ wd, wd = wc.drew := ⟨_, rfl⟩
        have ND := Lib.hid (show RE w wd b _ _ _ _ _ _ _ _ from hwd ▸ NX.out.past (turned_drew wc []))
        have OD := Lib.hid (show obj wd wr.heap.size 78 [.int .u16 x.s, .bool x.o, .slice ba x.B.length bc, .int .i64 x.id, .int .i64 x.un, .int .i64 (x.at_ : Int), .int .u16 x.ssn] from hwd ▸ OX.out)
        have HWD := Lib.hid hwd
        have c3 := ND.out.p.1.cell 3 rfl
        have f3 := ND.out.p.1.free 3
        have x2 := OD.out.cell 2 rfl
        have x5 := OD.out.cell 5 rfl
        simp only at c3
        have hky := HKY.out hgo
        have HK2 := Lib.hid hky
        have HGO := Lib.hid hgo
        obtain ⟨X, hX⟩ : ∃ X, XS.zero.run now (S.L.take j) = X := ⟨_, rfl⟩
        rw [hX] at hXg c3
        have HXE := Lib.hid hX
        have s1 : IntKind.i64.wrap ((x.B.length : Int) - (x.at_ : Int)) = (x.B.length : Int) - (x.at_ : Int) := IntWalk.i64_in _ (by omega)
        have s2 : IntKind.i64.wrap (S.used - X.gone - ((x.B.length : Int) - (x.at_ : Int))) = S.used - X.gone - ((x.B.length : Int) - (x.at_ : Int)) := IntWalk.i64_in _ (by omega)
        have hxl : (x.left : Int) = (x.B.length : Int) - (x.at_ : Int) := by unfold IT.left; omega
        have HXL := Lib.hid hxl
        have hbx : ¬ wr.heap.size = b := fun e => by have := HN.out.lt b (rfoot_b _ _ _ _); have := HXB.out; omega
        clear hwd hky hgo hX hxl
        go_wp2_with fail
        refine region_tail 15 (by kernel_rfl) (by kernel_rfl) wd HWD.out ?_
        simp only [List.take_succ_cons, List.take_zero, List.drop_succ_cons, List.drop_zero]
        iterate 15 still_step
        refine wpStill_nil ?_
        go_upto_region 14 with (fail)
        obtain ⟨w13, hw13⟩ : ∃ w13, wd.setCell ⟨b, 3, none⟩ (.int .i64 (S.used - X.gone - ((x.B.length : Int) - (x.at_ : Int)))) = w13 := ⟨_, rfl⟩
        have n13 := ND.out.used (X.gone + (x.left : Int)) (S.used - X.gone - ((x.B.length : Int) - (x.at_ : Int))) (by rw [HXL.out]; omega)
        rw [HXE.out] at n13
        have o13 := OD.out.setOther (a := ⟨b, 3, none⟩) hbx (.int .i64 (S.used - X.gone - ((x.B.length : Int) - (x.at_ : Int))))
        rw [hw13] at n13 o13 ⊢
        have N13 := Lib.hid n13
        have O13 := Lib.hid o13
        clear hw13 n13 o13 c3 f3 x2 x5 s1 s2
        have x5 := O13.out.cell 5 rfl
        by_cases h0 : 0 < x.at_
        · have g0 : decide ((0 : Int) < (x.at_ : Int)) = true := decide_eq_true (by omega)
          have hst := HST.out
          unfold XS.step at hst
          rw [if_pos HGO.out, if_pos h0, HXE.out] at hst
          have HS2 := Lib.hid hst
          have ta := turned_alloc (turned_refl w13 []) (.cells #[.int .u8 0] 5)
          have NA := Lib.hid (N13.out.past ta)
          have OA := Lib.hid (O13.out.past ta (by simp))
          have x0 := OA.out.cell 0 rfl
          have x1 := OA.out.cell 1 rfl
          have x6 := OA.out.cell 6 rfl
          have x3 := OA.out.cell 3 rfl
          have y0 := O13.out.cell 0 rfl
          have y1 := O13.out.cell 1 rfl
          have y6 := O13.out.cell 6 rfl
          have hwl : w.heap.size + 1 < w13.heap.size := N13.out.d.lt
          have RA := Lib.hid (World.ownsRow_lit (base := w.heap.size) (e := 5) (size := 1) w13 #[.int .u8 0] 1 (by omega) (by decide) (by simp))
          have HWL := Lib.hid hwl
          clear hst ta hwl
          go_upto_region 16 with (first
            | (refine wpList_store_row rfl _ _ _ rfl (w.heap.size + 1) #[.int .u32 0, .int .u16 x.s, .int .u16 x.ssn, .bool (!x.o), .bool false, .bool true, .slice (some ⟨w13.heap.size, 0, none⟩) 1 1] rfl rfl 34 _ NA.out.d (by kernel_rfl) rfl (by rw [← Array.all_toList]; rfl) ?_)
            | fail)
          (try simp only [Act.put])
          have tw := turned_setRow (w13.alloc (.cells #[.int .u8 0] 5)) (w.heap.size + 1) #[.int .u32 0, .int .u16 x.s, .int .u16 x.ssn, .bool (!x.o), .bool false, .bool true, .slice (some ⟨w13.heap.size, 0, none⟩) 1 1]
          have hV := setRow_heap (w13.alloc (.cells #[.int .u8 0] 5)) (w.heap.size + 1) _ #[.int .u32 0, .int .u16 x.s, .int .u16 x.ssn, .bool (!x.o), .bool false, .bool true, .slice (some ⟨w13.heap.size, 0, none⟩) 1 1] _ _ NA.out.d
          obtain ⟨w15, hw15⟩ : ∃ w15, (w13.alloc (.cells #[.int .u8 0] 5)).setRow (w.heap.size + 1) #[.int .u32 0, .int .u16 x.s, .int .u16 x.ssn, .bool (!x.o), .bool false, .bool true, .slice (some ⟨w13.heap.size, 0, none⟩) 1 1] = w15 := ⟨_, rfl⟩
          rw [hw15] at tw hV ⊢
          have N15 := Lib.hid (NA.out.piece (X' := ⟨X.gone + (x.left : Int), x.s, x.ssn, !x.o, true, [0], x.id⟩) (dv' := .slice (some ⟨w13.heap.size, 0, none⟩) 1 1) tw hV (row_past RA.out tw (fun q hq e => by have := HWL.out; have e2 := List.mem_singleton.1 e; simp [Value.ownBlock] at hq; omega)) rfl)
          have x3 := (OA.out.past tw (fun e => by have := HXB.out; have e2 := List.mem_singleton.1 e; omega)).cell 3 rfl
          have c3 := N15.out.p.1.cell 3 rfl
          have f3 := N15.out.p.1.free 3
          simp only at c3
          have hbb : x.left ≤ 1048576 := by unfold IT.left; omega
          have s6 : IntKind.i64.wrap (S.used - (X.gone + (x.left : Int)) + 1) = S.used - (X.gone + (x.left : Int)) + 1 := IntWalk.i64_in _ (by omega)
          have N18 := Lib.hid (N15.out.used (X.gone + (x.left : Int) - 1) (S.used - (X.gone + (x.left : Int)) + 1) (by omega))
          clear hw15 tw hV x0 x1 x6 y0 y1 y6 x5
          go_wp2_with fail
          go_roundw
          case rel => exact ⟨j + 1, by omega, by go_num, by rw [HS2.out], by rw [HS2.out], _, by rw [HS2.out, HK2.out]; exact N18.out⟩
          case measure => simp only [intOf]; omega
        · have g0 : decide ((0 : Int) < (x.at_ : Int)) = false := decide_eq_false (by omega)
          have hst := HST.out
          unfold XS.step at hst
          rw [if_pos HGO.out, if_neg h0, HXE.out] at hst
          have HS2 := Lib.hid hst
          clear hst
          go_wp2_with fail
          go_roundw
          case rel => exact ⟨j + 1, by omega, by go_num, by rw [HS2.out, HXE.out], by rw [HS2.out, HXE.out], dv, by rw [HS2.out, HK2.out]; exact N13.out⟩
          case measure => simp only [intOf]; omega
    · have hjn : j = Z.length := by omega
      subst hjn
      have e1 : S.L.take Z.length = S.L := List.take_of_length_le (by rw [HZ.out]; exact Nat.le_refl _)
      have e2 : Z.take Z.length = Z := List.take_of_length_le (Nat.le_refl _)
      have hn0 := HN.out
      have hg0 := HXG.out Z.length
      rw [e1] at hn0 hg0 ⊢
      rw [e2] at hn0
      have hnl : ¬ (Z.length : Int) < (Z.length : Int) := by omega
      obtain ⟨X, hX⟩ : ∃ X, XS.zero.run now S.L = X := ⟨_, rfl⟩
      rw [hX] at hn0 hg0 ⊢
      have N0 := Lib.hid hn0
      have HXE := Lib.hid hX
      have c3 := hn0.p.1.cell 3 rfl
      have f3 := hn0.p.1.free 3
      simp only at c3
      have hfr : freed S.used X.gone = (if S.used - X.gone < 0 then 0 else S.used - X.gone) := by unfold freed; split <;> omega
      have HFR := Lib.hid hfr
      clear hn0 e1 e2 hX hfr
      obtain ⟨la, lc, rfl, _, _, _⟩ := row_form N0.out.k
      obtain ⟨da, dc, rfl, _, _, _⟩ := row_form N0.out.e
      go_upto_region 20 with (fail)
      obtain ⟨w19, hw19⟩ : ∃ w19, wr.setCell ⟨b, 3, none⟩ (.int .i64 (if S.used - X.gone < 0 then 0 else S.used - X.gone)) = w19 := ⟨_, rfl⟩
      have n19 := N0.out.used (S.used - freed S.used X.gone) (if S.used - X.gone < 0 then 0 else S.used - X.gone) (by rw [HFR.out]; omega)
      rw [hw19] at n19 ⊢
      have N19 := Lib.hid n19
      have c0' := N19.out.p.1.cell 0 rfl
      have f0' := N19.out.p.1.free 0
      obtain ⟨p20, t20⟩ := N19.out.p.newL ((offRow.of N19.out.k).rebase (Nat.zero_le _)) (fun z hz => N19.out.p.2.2.2.2 z (keptY_mem hz))
      have hbl : b < w.heap.size := N19.out.lt b (rfoot_b _ _ _ _)
      have o20 := N19.out.d.past t20 (fun e => by have := List.mem_singleton.1 e; omega)
      have r20 := N19.out.r.past t20 (fun e => by have := List.mem_singleton.1 e; omega)
      have e20 := row_past N19.out.e t20 (fun q hq e => by have := (row_lt0 N19.out.e q hq).1; rw [List.mem_singleton.1 e] at this; omega)
      obtain ⟨w20, hw20⟩ : ∃ w20, w19.setCell ⟨b, 0, none⟩ (.slice la (keptY now Z).length lc) = w20 := ⟨_, rfl⟩
      have P20 := Lib.hid p20
      have T20 := Lib.hid t20
      have O20 := Lib.hid (show obj (w19.setCell ⟨b, 0, none⟩ (.slice la (keptY now Z).length lc)) (w.heap.size + 1) 34 [.int .u32 0, .int .u16 X.s, .int .u16 X.n, .bool X.u, .bool false, .bool X.some, .slice da X.B.length dc] from o20)
      have R20 := Lib.hid r20
      have E20 := Lib.hid e20
      rw [hw20] at P20 T20 O20 R20 E20
      clear hw19 n19 p20 t20 o20 r20 e20 c0 c3 f3
      generalize (if S.used - X.gone < 0 then (0 : Int) else S.used - X.gone) = V at *
      go_upto_region 21 with (fail)
      (try rw [hw20])
      clear hw20 c0' f0'
      go_wp2_with (first
        | (refine wpList_load_row rfl _ _ rfl (w.heap.size + 1) rfl _ _ _ _ O20.out Try.underlying34 rfl (by kernel_rfl) ?_)
        | (refine wpList_store_row rfl _ _ _ rfl w.heap.size #[.int .u32 0, .int .u16 X.s, .int .u16 X.n, .bool X.u, .bool false, .bool X.some, .slice da X.B.length dc] rfl rfl 34 _ R20.out (by kernel_rfl) rfl (by rw [← Array.all_toList]; rfl) ?_)
        | fail)
      rw [HXE.out]
      refine bodyPost_ret (results_cell3 rfl _ _ w.heap.size 34 #[.int .u32 0, .int .u16 X.s, .int .u16 X.n, .bool X.u, .bool false, .bool X.some, .slice da X.B.length dc] (0, 0) _ rfl (setRow_heap w20 w.heap.size _ #[.int .u32 0, .int .u16 X.s, .int .u16 X.n, .bool X.u, .bool false, .bool X.some, .slice da X.B.length dc] _ _ R20.out) Try.underlying34 rfl (by kernel_rfl)) rfl ?_
      have tt := turned_setRow w20 w.heap.size #[.int .u32 0, .int .u16 X.s, .int .u16 X.n, .bool X.u, .bool false, .bool X.some, .slice da X.B.length dc]
      have hbw : ∀ q, q ∈ rfoot b (.slice la (keptY now Z).length lc) sv (keptY now Z) → q ∈ rfoot b (.slice va Z.length vc) sv Z ∨ ((Value.slice la (keptY now Z).length lc).ownBlock = some q) := fun q hq => by
        simp only [rfoot, List.mem_cons, List.mem_append, List.mem_flatMap, Option.mem_toList] at hq
        rcases hq with hq | hq | hq | ⟨z, hz, hq⟩
        · exact .inl (by rw [hq]; exact rfoot_b _ _ _ _)
        · exact .inr hq
        · exact .inl (rfoot_sv hq)
        · exact .inl (rfoot_z (keptY_mem hz) hq)
      have P21 := P20.out.past tt (fun q hq e => by
        rw [List.mem_singleton.1 e] at hq
        rcases hbw _ hq with h | h
        · have := N19.out.lt _ h; omega
        · exact row_ne N19.out.k N19.out.r (by decide) h)
      have hSE : ({ ({ S with used := S.used - (S.used - freed S.used X.gone) } : QS) with L := (keptY now Z).map (·.2) } : QS) = S.expire now := by
        unfold QS.expire
        have e : S.used - (S.used - freed S.used X.gone) = freed S.used X.gone := by omega
        simp only [keptY_map, HP.out.2.2.2.1, HXE.out, e]
      refine ⟨_, rfl, ?_, ⟨_, hSE ▸ P21.is, fun q hq => (hbw q hq).imp id (fun h => (row_lt0 N19.out.k q h).1)⟩, ?_⟩
      · exact row_past E20.out tt (fun q hq e => row_ne N19.out.e N19.out.r (by decide) (by rw [hq, List.mem_singleton.1 e]))
      · exact turned_narrow (turned_trans (turned_more (turned_trans N19.out.t (turned_more T20.out (fun q hq => by rw [List.mem_singleton.1 hq]; exact rfoot_b _ _ _ _))) (fun q hq => List.mem_append_left [w.heap.size] hq)) (turned_more tt (fun q hq => List.mem_append_right _ hq))) (fun q hq => by
          rcases List.mem_append.1 hq with h | h
          · exact .inl h
          · rw [List.mem_singleton.1 h]; exact .inr (Nat.le_refl _))
end Go.Proofs.Ytibnjakiagcopaa
