/- What the program tells of a row of pieces that is one: the walk. Conditions: the pieces lie in memory; at most 1000. -/
import Derived.Test.YtdmoknijpapedaaFwdMake2
namespace Go.Proofs.Ytdmoknijpapedaa
open Go.RowKit Go.Maps Go.Deep
set_option linter.unusedVariables false
set_option linter.unusedSimpArgs false

def MLoop (w : World) (cum : Int) (X : List PD) (bf bm : Nat) (i : Value) (wr : World) : Prop := ∃ (j : Nat) (sv : Value) (D : DataW Unit), j ≤ X.length ∧ i = .int .i64 (j : Int) ∧ MRel w cum X bf bm j sv D wr
theorem at_place {S : List (Int × Int)} {D : DataW Unit} (A : At D S) {s : Int} (hs : ∃ e, e ∈ S ∧ e.1 = s) : ∃ (k : Nat) (hk : k < S.length), (S[k]'hk).1 = s ∧ ∀ z, D.atKey (.int .u16 s) z = .lit (.int .i64 (k : Int)) := by
  obtain ⟨e, he, rfl⟩ := hs
  obtain ⟨k, hk, rfl⟩ := List.getElem_of_mem he
  exact ⟨k, hk, rfl, A.val k hk⟩

theorem wf_u16 {x : Int} (h0 : 0 ≤ x) (h1 : x < 65536) : (Lit.int .u16 x).wf = true := by
  show (decide (IntKind.u16.min ≤ x) && decide (x ≤ IntKind.u16.max)) = true
  rw [show IntKind.u16.min = 0 by decide, show IntKind.u16.max = 65535 by decide]
  simp; omega
theorem wf_i64 {x : Int} (h0 : -9223372036854775808 ≤ x) (h1 : x ≤ 9223372036854775807) : (Lit.int .i64 x).wf = true := by
  show (decide (IntKind.i64.min ≤ x) && decide (x ≤ IntKind.i64.max)) = true
  rw [show IntKind.i64.min = -9223372036854775808 by decide, show IntKind.i64.max = 9223372036854775807 by decide]
  simp; omega
set_option maxRecDepth 100000 in
set_option maxHeartbeats 8000000 in
theorem make_row (cum : Int) (v : Value) (X : List PD) (w : World) (hc : 0 ≤ cum ∧ cum < 4294967296) (h : LiesD w v X) (hX : X.length ≤ 1000) (hr : isRow cum X) :
    Calls Try.prog 9 #[.int .u32 cum, v] w (Told w cum X) := by
  obtain ⟨a, cap, rfl, hc1, hc2⟩ := h.1.form
  have hpos : 0 < X.length := by
    rcases Nat.eq_zero_or_pos X.length with e | e
    · exact absurd (List.eq_nil_of_length_eq_zero e) hr.1
    · exact e
  have H := Lib.hid h
  have HR := Lib.hid hr.2
  have HC := Lib.hid hc
  have hmm := @run_makeMap Try.prog
  clear h hr hc
  go_enter Try.func9, Try.ntmps9
  go_wp2
  go_loopw [16] (fun i wr => ORel w cum X i wr) (fun i _ => X.length - (intOf i).toNat)
  case atStart => exact ⟨turned_alloc (turned_refl w []) _, obj.new w 27 [.int .u32 0, .slice none 0 0], 0, Nat.zero_le _, rfl, fun t ht h => absurd h (Nat.not_lt_zero t)⟩
  case round =>
    obtain ⟨tw, ow, j, hj, rfl, hall⟩ := hrel
    have TW := Lib.hid tw
    have OW := Lib.hid ow
    clear hall tw ow
    by_cases hlt : j < X.length
    · obtain ⟨b, off, rfl, hb, c0, c1, c2, c3, c4, c5, c6⟩ := (H.out.none_ TW.out).cells j hlt
      have hq := ahd_row hlt hX H.out.2 HC.out
      have hk := HR.out j hlt
      obtain ⟨x, hx⟩ : ∃ x, X[j]'hlt = x := ⟨_, rfl⟩
      rw [hx] at c0 c1 c2 c3 c4 c5 c6 hq hk
      have HXJ := Lib.hid hx
      clear hx
      have hb1 : (ahd 4294967296 cum x.t != (j : Int) + 1) = false := by
        cases hh : (ahd 4294967296 cum x.t != (j : Int) + 1) with
        | false => rfl
        | true => exact absurd hk (hq.1 hh)
      clear hq hk
      go_wp2_with (go_at_call 19; refine (ahead_u32 _ _ _).mono ?_; rintro e w' ⟨rfl, rfl⟩)
      go_roundw
      case rel => exact ⟨turned_alloc TW.out _, OW.out.alloc _, j + 1, by omega, by go_num, fun t ht h => HR.out t ht⟩
      case measure => simp only [intOf]; omega
    · obtain ⟨b, off, rfl, hb, c0, c1, c2, c3, c4, c5, c6⟩ := (H.out.none_ TW.out).cells (X.length - 1) (by omega)
      rw [← lastT_at X hpos] at c0
      have e1 : ((X.length - 1 : Nat) : Int) = (X.length : Int) - 1 := by omega
      clear c1 c2 c3 c4 c5 c6
      have hb0 : ((X.length : Int) == 0) = false := beq_eq_false_iff_ne.2 (by omega)
      have oF := obj.new wr 27 [.int .u32 (lastT X), .slice none 0 0]
      have M0 : MRel w cum X wr.heap.size (wr.heap.size + 1) 0 (.slice none 0 0) (.map []) ((wr.alloc (.cells #[.int .u32 (lastT X), .slice none 0 0] 27)).alloc (.map #[] 0)) := by
        have hlt := OW.out.lt
        refine ⟨turned_alloc (turned_alloc TW.out _) _, (OW.out.alloc _).alloc _, oF.alloc _, World.ownsRow_nil _ _ _ _, ?_, At.empty, hlt, by omega⟩
        have := World.ownsMap_made (H := Unit) (wr.alloc (.cells #[.int .u32 (lastT X), .slice none 0 0] 27)) Try.prog 31 (plainElem Try.prog 3)
        simpa using this
      have HM0 := Lib.hid M0
      clear M0 oF
      go_wp2
      generalize wr.heap.size + 1 = bm at HM0 ⊢
      generalize wr.heap.size = bf at HM0 ⊢
      go_loopw [46] (fun i wr => MLoop w cum X bf bm i wr) (fun i _ => X.length - (intOf i).toNat)
      case atStart => exact ⟨0, _, _, Nat.zero_le _, rfl, HM0.out⟩
      case round =>
        obtain ⟨j, sv, D, hj, rfl, hm⟩ := hrel
        have HM := Lib.hid hm
        clear hm
        have hll := told_len (X.take j)
        have hlt' : (X.take j).length ≤ j := List.length_take_le _ _
        by_cases hlt : j < X.length
        · obtain ⟨b', off', e, hb', c0, c1, c2, c3, c4, c5, c6⟩ := (H.out.none_ HM.out.1).cells j hlt
          simp only [Option.some.injEq, Addr.mk.injEq, and_true] at e
          obtain ⟨rfl, rfl⟩ := e
          have hok := H.out.2 _ (List.getElem_mem hlt)
          have skip := fun h => HM.out.skip hlt h
          obtain ⟨x, hx⟩ : ∃ x, X[j]'hlt = x := ⟨_, rfl⟩
          rw [hx] at c0 c1 c2 c3 c4 c5 c6 hok skip
          have HXJ := Lib.hid hx
          have SKIP := Lib.hid skip
          clear hx skip
          by_cases hu : x.u = true
          · rw [hu] at c3
            have HU := Lib.hid hu
            clear hu
            go_wp2
            go_roundw
            case rel => exact ⟨j + 1, sv, D, by omega, by go_num, SKIP.out HU.out _⟩
            case measure => simp only [intOf]; omega
          · have hu' : x.u = false := by simpa using hu
            have HU := Lib.hid hu'
            rw [hu'] at c3
            clear hu hu' SKIP
            have hkey : keyOf Try.prog 31 (.int .u16 x.s) = some (.int .u16 x.s) := keyOf_int_mk Try.underlying31 (wf_u16 hok.s0 hok.s1)
            have HK := Lib.hid hkey
            clear hkey hok
            obtain ⟨sa, sc, rfl, hs1, hs2, hsa⟩ := row_form HM.out.2.2.2.1
            have HSA := Lib.hid hsa
            clear hsa
            obtain ⟨o, ho⟩ : ∃ o : Obj, o = .cells #[.int .u32 x.t, .int .u16 x.s, .int .u16 x.n, .bool false, .bool x.f, .bool x.l, .slice x.ba x.bn x.bc] 34 := ⟨_, rfl⟩
            have hmlt := HM.out.2.2.2.2.1.lt
            have hflt := HM.out.2.2.1.lt
            by_cases hs : ∃ e, e ∈ told (X.take j) ∧ e.1 = x.s
            · have hhas := (HM.out.2.2.2.2.2.1.has x.s).2 hs
              obtain ⟨k, hk, hks, hkv⟩ := at_place HM.out.2.2.2.2.2.1 hs
              have hkv0 := Lib.hid (hkv (.lit (.int .i64 0)))
              obtain ⟨g, rfl⟩ := HSA.out (by omega)
              obtain ⟨y, hy⟩ : ∃ y, (told (X.take j))[k]'hk = y := ⟨_, rfl⟩
              have HY := Lib.hid hy
              have HKS := Lib.hid hks
              clear hy hks hkv hs
              obtain ⟨wd, hwd⟩ : ∃ wd, wd = (wr.alloc (.cells #[.int .u32 x.t, .int .u16 x.s, .int .u16 x.n, .bool false, .bool x.f, .bool x.l, .slice x.ba x.bn x.bc] 34)).drew := ⟨_, rfl⟩
              have AG := HM.out.again hlt (by rw [HXJ.out]; exact HU.out) hk (by rw [HXJ.out]; exact HKS.out) rfl hwd
              rw [HXJ.out, HY.out] at AG
              have r1 : wd.cell? ⟨bf, 1, none⟩ = some (.slice (some ⟨g, 0, none⟩) (told (X.take j)).length sc) := by rw [hwd]; exact (HM.out.2.2.1.alloc _).drew.cell 1 rfl
              have od : obj wd wr.heap.size 34 [.int .u32 x.t, .int .u16 x.s, .int .u16 x.n, .bool false, .bool x.f, .bool x.l, .slice x.ba x.bn x.bc] := by rw [hwd]; exact (obj.new wr _ _).drew
              have d2 := od.cell 2 rfl
              have hrow : wd.ownsRow w.heap.size 41 2 (.slice (some ⟨g, 0, none⟩) (told (X.take j)).length sc) (told (X.take j)).length (flat cSk (told (X.take j))) := by rw [hwd]; exact (HM.out.2.2.2.1.alloc _)
              have e1 := hrow.cellAt (k * 2 + 1) (by omega)
              rw [flat_at cSk_len _ k hk 1 (by omega), HY.out] at e1
              have e2 : wd.cell? ⟨g, k * 2 + 1, none⟩ = some (.int .u16 y.2) := e1
              have ef := hrow.frozenAt (k * 2 + 1)
              have HWD := Lib.hid hwd
              have HAG := Lib.hid AG
              clear od hrow e1 hwd AG
              go_wp2_with (first | (at_lookup; refine wpList_lookup_own_ok_int _ rfl _ _ 47 rfl 31 3 .i64 keyedU Try.underlying47 Try.underlying3 (zeroInt _) bm j D rfl (HM.out.2.2.2.2.1.alloc _) _ (.int .u16 x.s) rfl HK.out ?_) | go_in)
              intro c hat hwc
              rw [hkv0.out] at hat
              obtain rfl : (k : Int) = c := by simpa using hat
              clear hat hwc
              go_wp2_with fail
              refine region_tail 14 (by kernel_rfl) (by kernel_rfl) wd HWD.out ?_
              simp only [List.take_succ_cons, List.take_zero, List.drop_succ_cons, List.drop_zero]
              iterate 11 still_step
              still_call (calls_flip (max_u16 _ _ _))
              iterate 2 still_step
              refine wpStill_nil ?_
              go_wp2
              go_roundw
              case rel => exact ⟨j + 1, _, _, by omega, by go_num, HAG.out⟩
              case measure => simp only [intOf]; omega
            · have hhas : Maps.has D (.int .u16 x.s) = false := by
                cases hh : Maps.has D (.int .u16 x.s) with
                | false => rfl
                | true => exact absurd ((HM.out.2.2.2.2.2.1.has x.s).1 hh) hs
              have HS := Lib.hid hs
              clear hs
              have r1 := (HM.out.2.2.1.alloc (.cells #[.int .u32 x.t, .int .u16 x.s, .int .u16 x.n, .bool false, .bool x.f, .bool x.l, .slice x.ba x.bn x.bc] 34)).cell 1 rfl
              go_wp2_with (first | (at_lookup; refine wpList_lookup_own_ok_int _ rfl _ _ 47 rfl 31 3 .i64 keyedU Try.underlying47 Try.underlying3 (zeroInt _) bm j D rfl (HM.out.2.2.2.2.1.alloc _) _ (.int .u16 x.s) rfl HK.out ?_) | go_in)
              intro c hat hwc
              clear hat hwc
              go_wp2_with (first | (at_mapUpdate; refine wpList_mapUpdate_own _ rfl _ _ _ 47 rfl 31 3 keyedU Try.underlying47 (plainElem Try.prog 3) bm j D rfl (HM.out.2.2.2.2.1.alloc _) (by unfold maxLen; omega) _ _ (.int .u16 x.s) rfl rfl HK.out (.lit (.int .i64 ((told (X.take j)).length : Int))) [] (plainElem_int Try.underlying3 ?wf) ?_) | go_in)
              case wf => exact wf_i64 (by omega) (by omega)
              intro w2 hown2 hgrow2
              have od := (obj.new wr 34 [.int .u32 x.t, .int .u16 x.s, .int .u16 x.n, .bool false, .bool x.f, .bool x.l, .slice x.ba x.bn x.bc]).kept hgrow2 (by simp; omega)
              have d1 := od.cell 1 rfl
              have d2 := od.cell 2 rfl
              have r2 := ((HM.out.2.2.1.alloc _).kept hgrow2 (by simp; exact HM.out.sep.1)).cell 1 rfl
              have hrow := (HM.out.2.2.2.1.alloc _).kept hgrow2 (Or.inr HM.out.sep.2.2.1)
              have hsz2 := HM.out.1.2.2.2.1
              have hsz3 := hgrow2.size
              simp at hsz3
              have HOWN := Lib.hid hown2
              have HG := Lib.hid hgrow2
              have HROW := Lib.hid hrow
              clear od hown2 hgrow2 hrow r1 hhas
              obtain ⟨i0, hi0, hz0, hz1, hz2⟩ := info_parts infoSk
              go_wp2_with (first | (at_builtin; refine wpList_append_own_at _ rfl _ _ 25 rfl w.heap.size 41 i0 (.agg #[.int .u16 0, .int .u16 0]) 2 4 Try.underlying25 hi0 hz0 hz1 hz2 rfl (by decide) _ (told (X.take j)).length (flat cSk (told (X.take j))) rfl (HROW.out.alloc _) ⟨w2.heap.size, 0, none⟩ 1 1 [.int .u16 x.s, .int .u16 x.n] rfl rfl (fun j u hu => by rw [adr0]; exact (obj.new w2 41 [.int .u16 x.s, .int .u16 x.n]).cell j hu) (by simp [Value.oneCell']) (by unfold maxLen; omega) (by omega) (by simp; omega) ?_) | go_in)
              intro v' w3 ho3 hg3 _ hl3
              have FR := HM.out.fresh hlt (by rw [HXJ.out]; exact HU.out) (by rw [HXJ.out]; exact fun e he h => HS.out ⟨e, he, h⟩) (by rw [HXJ.out]; exact keyedU.key HK.out) rfl HG.out rfl hg3 (by rw [HXJ.out]; exact HOWN.out) (by rw [HXJ.out]; exact ho3) (by simpa using hl3)
              obtain ⟨va, vc, rfl, _⟩ := row_form ho3
              have q1 := FR.1.cell 1 rfl
              have qf := FR.1.free 1
              have HFR := Lib.hid FR.2
              clear FR ho3 hg3 hl3
              go_wp2
              go_roundw
              case rel => exact ⟨j + 1, _, _, by omega, by go_num, HFR.out⟩
              case measure => simp only [intOf]; omega
        · have hjn : j = X.length := by omega
          subst hjn
          have c0' := HM.out.2.2.1.cell 0 rfl
          have c1' := HM.out.2.2.1.cell 1 rfl
          have n0 := HM.out.2.1.cell 0 rfl
          have n1 := HM.out.2.1.cell 1 rfl
          have f0 := HM.out.2.1.free 0
          have f1 := HM.out.2.1.free 1
          obtain ⟨sa, sc, rfl, _⟩ := row_form HM.out.2.2.2.1
          have hrow := HM.out.2.2.2.1
          rw [List.take_length] at hrow c1'
          have HROW := Lib.hid hrow
          have hsep : sa ≠ sa ∨ (Value.slice sa (told X).length sc).ownBlock ≠ some w.heap.size := Or.inr (by have := HM.out.sep.2.2.2.1; rw [List.take_length] at this; exact this)
          have HSEP := Lib.hid hsep
          clear hrow hsep
          go_wp2
          refine bodyPost_ret (v := .tuple #[.agg #[.int .u32 (lastT X), .slice sa (told X).length sc], .bool true]) (by simp [results, Try.results9, go_sem, *]) rfl ?_
          have ts : turned wr ((wr.setCell ⟨w.heap.size, 0, none⟩ (.int .u32 (lastT X))).setCell ⟨w.heap.size, 1, none⟩ (.slice sa (told X).length sc)) [w.heap.size] := turned_set (turned_set (turned_refl wr [w.heap.size]) (List.mem_singleton.2 rfl) _) (List.mem_singleton.2 rfl) _
          refine ⟨_, rfl, row_past HROW.out ts (fun g hg e => ?_), turned_setNew (turned_setNew HM.out.1 (Nat.le_refl _) _) (Nat.le_refl _) _⟩
          rw [List.mem_singleton] at e
          subst e
          rcases HSEP.out with h | h
          · exact h rfl
          · exact h hg
end Go.Proofs.Ytdmoknijpapedaa
