/- The document's Next. Conditions: the queue lies in memory. -/
import Derived.Test.YtibnjakiagcopaaOutqRef6
namespace Go.Proofs.Ytibnjakiagcopaa
open Go.RowKit Go.Deep
set_option linter.unusedVariables false
set_option linter.unusedSimpArgs false

set_option maxRecDepth 100000 in
set_option maxHeartbeats 2000000 in
theorem rnext_none (b : Nat) (G : List Nat) (S : QS) (n : Nat) (m : Int) (w : World) (h : refIs w b G S) (hm : S.L = [] ∨ m < 1) :
    Calls Try.prog 33 #[.pointer (some ⟨b, 0, none⟩), .int .i64 m] w fun e w' => e = .returned (.tuple #[noData, .int .i64 0, .bool false]) ∧ turned w w' [] := by
  obtain ⟨v, sv, Z, rfl, h1, h2, h3, h4, h5⟩ := h
  obtain ⟨a, cap, rfl, hc1, hc2, _⟩ := h2.form
  have hZ : Z.length = S.L.length := by rw [← h4, List.length_map]
  have o1 := h1.alloc (.cells #[.int .u32 0, .int .u16 0, .int .u16 0, .bool false, .bool false, .bool false, .slice none 0 0] 34)
  have b0 := o1.cell 0 rfl
  have oD := obj.new w 34 [.int .u32 0, .int .u16 0, .int .u16 0, .bool false, .bool false, .bool false, .slice none 0 0]
  have t0 := turned_alloc (turned_refl w []) (.cells #[.int .u32 0, .int .u16 0, .int .u16 0, .bool false, .bool false, .bool false, .slice none 0 0] 34)
  have t1 := turned_trans (turned_more t0 (by simp)) (turned_setRow (w.alloc (.cells #[.int .u32 0, .int .u16 0, .int .u16 0, .bool false, .bool false, .bool false, .slice none 0 0] 34)) w.heap.size #[.int .u32 0, .int .u16 0, .int .u16 0, .bool false, .bool false, .bool false, .slice none 0 0])
  have t2 := turned_narrow (M := []) t1 (fun k hk => .inr (by rw [List.mem_singleton.1 hk]; exact Nat.le_refl _))
  have oR := setRow_heap (w.alloc (.cells #[.int .u32 0, .int .u16 0, .int .u16 0, .bool false, .bool false, .bool false, .slice none 0 0] 34)) w.heap.size _ #[.int .u32 0, .int .u16 0, .int .u16 0, .bool false, .bool false, .bool false, .slice none 0 0] _ _ oD
  have OR := Lib.hid oR
  have T2 := Lib.hid t2
  have OD := Lib.hid oD
  clear h1 h2 h3 h5 o1 t0 t1 t2 oR oD
  by_cases hl : S.L.length = 0
  · rw [hl] at hZ
    rw [hZ] at b0 hc1
    clear hm hl hZ h4
    go_enter Try.func33, Try.ntmps33
    go_wp2_with (first | (refine wpList_store_row rfl _ _ _ rfl w.heap.size #[.int .u32 0, .int .u16 0, .int .u16 0, .bool false, .bool false, .bool false, .slice none 0 0] rfl rfl 34 _ OD.out (by kernel_rfl) rfl (by rw [← Array.all_toList]; rfl) ?_) | fail)
    (try simp only [Exit.inBlock, Exit.then])
    refine bodyPost_ret (results_cell3 rfl _ _ w.heap.size 34 #[.int .u32 0, .int .u16 0, .int .u16 0, .bool false, .bool false, .bool false, .slice none 0 0] (0, 0) _ rfl OR.out Try.underlying34 rfl (by kernel_rfl)) rfl ?_
    exact ⟨rfl, T2.out⟩
  · have hm' : m < 1 := hm.resolve_left (fun e => hl (by rw [e]; rfl))
    have d1 : decide (m < 1) = true := decide_eq_true hm'
    have d0 : ((Z.length : Int) == 0) = false := beq_eq_false_iff_ne.2 (by omega)
    generalize Z.length = zn at *
    clear hm hl hZ h4
    go_enter Try.func33, Try.ntmps33
    go_wp2_with (first | (refine wpList_store_row rfl _ _ _ rfl w.heap.size #[.int .u32 0, .int .u16 0, .int .u16 0, .bool false, .bool false, .bool false, .slice none 0 0] rfl rfl 34 _ OD.out (by kernel_rfl) rfl (by rw [← Array.all_toList]; rfl) ?_) | fail)
    (try simp only [Exit.inBlock, Exit.then])
    refine bodyPost_ret (results_cell3 rfl _ _ w.heap.size 34 #[.int .u32 0, .int .u16 0, .int .u16 0, .bool false, .bool false, .bool false, .slice none 0 0] (0, 0) _ rfl OR.out Try.underlying34 rfl (by kernel_rfl)) rfl ?_
    exact ⟨rfl, T2.out⟩
set_option maxRecDepth 100000 in
set_option maxHeartbeats 2000000 in
theorem rnext (b : Nat) (G : List Nat) (S : QS) (n : Nat) (m : Int) (x : IT) (L : List IT) (k : Nat) (w : World) (h : refIs w b G S) (hk : S.ok n) (hn : n ≤ 1000000) (hl : S.L = x :: L) (hm : 1 ≤ m) (hm2 : m ≤ 9223372036854775807) (hkm : (k : Int) = min m (x.left : Int)) :
    Calls Try.prog 33 #[.pointer (some ⟨b, 0, none⟩), .int .i64 m] w fun e w' => ∃ da dc, e = .returned (.tuple #[.agg #[.int .u32 0, .int .u16 x.s, .int .u16 (S.num x), .bool !x.o, .bool (decide (x.at_ = 0)), .bool (decide (x.at_ + k = x.B.length)), .slice da k dc], .int .i64 x.id, .bool true]) ∧
      w'.ownsRow w.heap.size 5 1 (.slice da k dc) k (flat cB ((x.B.drop x.at_).take k)) ∧ (∃ G', refIs w' b G' (S.next x L k) ∧ grewFoot w G G') ∧ turned w w' G := by
  obtain ⟨v, sv, Z, rfl, hp⟩ := h
  obtain ⟨bv, Z', rfl⟩ : ∃ bv Z', Z = (bv, x) :: Z' := by
    have h4 := hp.2.2.2.1
    cases Z with
    | nil => rw [hl] at h4; simp at h4
    | cons z Z => rw [hl] at h4; simp at h4; exact ⟨z.1, Z, by rw [← h4.1]⟩
  have hp : refP w b v sv ((bv, x) :: Z') S := hp
  obtain ⟨va, vc, rfl, hvc1, hvc2, hva⟩ := hp.2.1.form
  obtain ⟨gi, off, rfl⟩ := hva (by simp)
  obtain ⟨ba, bc, hbv, hbc1, hbc2, hba⟩ := row_form (hp.2.2.2.2 (bv, x) (by simp))
  simp only at hbv hbc1 hbc2 hba
  subst hbv
  have hx := hk.it x (by rw [hl]; simp)
  obtain ⟨gb, rfl⟩ := hba (by have := hx.b0; omega)
  have h3' := hp.2.2.1
  obtain ⟨a2, cap2, rfl, hc3, hc4, hss⟩ := row_form h3'
  obtain ⟨gs, rfl⟩ := hss (by have := hk.k0; omega)
  have hlt := hp.is.lt
  have t0 := turned_alloc (turned_refl w []) (.cells #[.int .u32 0, .int .u16 0, .int .u16 0, .bool false, .bool false, .bool false, .slice none 0 0] 34)
  have p0 := hp.past t0 (by simp)
  have b0 := p0.1.cell 0 rfl
  have RA := Lib.hid (show (w.alloc (.cells #[.int .u32 0, .int .u16 0, .int .u16 0, .bool false, .bool false, .bool false, .slice none 0 0] 34)).rangeAt gi off [.int .u16 x.s, .bool x.o, .slice (some ⟨gb, 0, none⟩) x.B.length bc, .int .i64 x.id, .int .i64 x.un, .int .i64 (x.at_ : Int), .int .u16 x.ssn] from by have := p0.2.1.rangeOf 0 (by simp); rw [Nat.zero_mul, Nat.add_zero] at this; exact this)
  have hRN : RN w (((w.alloc (.cells #[.int .u32 0, .int .u16 0, .int .u16 0, .bool false, .bool false, .bool false, .slice none 0 0] 34)).alloc (.cells #[.int .u16 x.s, .bool x.o, .slice (some ⟨gb, 0, none⟩) x.B.length bc, .int .i64 x.id, .int .i64 x.un, .int .i64 (x.at_ : Int), .int .u16 x.ssn] 78)).alloc (.cells #[.int .u32 0, .int .u16 x.s, .int .u16 0, .bool (!x.o), .bool (decide (x.at_ = 0)), .bool false, .slice none 0 0] 34)) b (.slice (some ⟨gi, off, none⟩) ((Value.slice (some ⟨gb, 0, none⟩) x.B.length bc, x) :: Z').length vc) (.slice (some ⟨gs, 0, none⟩) S.ssn.length cap2) ((.slice (some ⟨gb, 0, none⟩) x.B.length bc, x) :: Z') S [.int .u16 x.s, .bool x.o, .slice (some ⟨gb, 0, none⟩) x.B.length bc, .int .i64 x.id, .int .i64 x.un, .int .i64 (x.at_ : Int), .int .u16 x.ssn] [.int .u32 0, .int .u16 x.s, .int .u16 0, .bool (!x.o), .bool (decide (x.at_ = 0)), .bool false, .slice none 0 0] := by
    have s1 : (w.alloc (.cells #[.int .u32 0, .int .u16 0, .int .u16 0, .bool false, .bool false, .bool false, .slice none 0 0] 34)).heap.size = w.heap.size + 1 := by simp
    have oR := obj.new w 34 [.int .u32 0, .int .u16 0, .int .u16 0, .bool false, .bool false, .bool false, .slice none 0 0]
    have oX := obj.new (w.alloc (.cells #[.int .u32 0, .int .u16 0, .int .u16 0, .bool false, .bool false, .bool false, .slice none 0 0] 34)) 78 [.int .u16 x.s, .bool x.o, .slice (some ⟨gb, 0, none⟩) x.B.length bc, .int .i64 x.id, .int .i64 x.un, .int .i64 (x.at_ : Int), .int .u16 x.ssn]
    have oD := obj.new ((w.alloc (.cells #[.int .u32 0, .int .u16 0, .int .u16 0, .bool false, .bool false, .bool false, .slice none 0 0] 34)).alloc (.cells #[.int .u16 x.s, .bool x.o, .slice (some ⟨gb, 0, none⟩) x.B.length bc, .int .i64 x.id, .int .i64 x.un, .int .i64 (x.at_ : Int), .int .u16 x.ssn] 78)) 34 [.int .u32 0, .int .u16 x.s, .int .u16 0, .bool (!x.o), .bool (decide (x.at_ = 0)), .bool false, .slice none 0 0]
    rw [World.size_alloc, s1] at oD
    rw [s1] at oX
    have t2 := turned_alloc (turned_alloc (turned_refl (w.alloc (.cells #[.int .u32 0, .int .u16 0, .int .u16 0, .bool false, .bool false, .bool false, .slice none 0 0] 34)) []) (.cells #[.int .u16 x.s, .bool x.o, .slice (some ⟨gb, 0, none⟩) x.B.length bc, .int .i64 x.id, .int .i64 x.un, .int .i64 (x.at_ : Int), .int .u16 x.ssn] 78)) (.cells #[.int .u32 0, .int .u16 x.s, .int .u16 0, .bool (!x.o), .bool (decide (x.at_ = 0)), .bool false, .slice none 0 0] 34)
    exact ⟨p0.past t2 (by simp), oX.alloc _, oD, (oR.alloc _).alloc _, hlt, turned_more (turned_trans t0 t2) (by simp)⟩
  have d0 : ((((Value.slice (some ⟨gb, 0, none⟩) x.B.length bc, x) :: Z').length : Int) == 0) = false := beq_eq_false_iff_ne.2 (by simp only [List.length_cons]; omega)
  have d1 : decide (m < 1) = false := decide_eq_false (by omega)
  have d2 : 0 < ((Value.slice (some ⟨gb, 0, none⟩) x.B.length bc, x) :: Z').length := by simp
  have hk0 := hk.k0
  have HRN := Lib.hid hRN
  have HK := Lib.hid hk
  have HX := Lib.hid hx
  have HL := Lib.hid hl
  have HP := Lib.hid hp
  have HKM := Lib.hid hkm
  have dx : ((x.at_ : Int) == 0) = decide (x.at_ = 0) := by rw [Bool.eq_iff_iff, beq_iff_eq, decide_eq_true_eq]; omega
  generalize hzn : ((Value.slice (some ⟨gb, 0, none⟩) x.B.length bc, x) :: Z').length = zn at *
  clear hp t0 p0 hRN hk hx hl hkm hva hba h3' hss hlt
  go_enter Try.func33, Try.ntmps33
  go_upto_region 5 with (first | (refine wpList_load_mid rfl _ _ rfl gi off rfl _ _ RA.out Try.underlying78 rfl (by kernel_rfl) ?_) | fail)
  generalize ((w.alloc _).alloc _).alloc _ = w3 at HRN ⊢
  have hzp : 0 < zn := d2
  clear b0 d0 d1 d2
  go_cut [50] (fun t wc => t = .bool (decide (x.at_ = 0) && x.o) ∧ wc = w3)
  case first =>
    have x1 := HRN.out.x.cell 1 rfl
    have x5 := HRN.out.x.cell 5 rfl
    clear dx
    by_cases hf : x.at_ = 0
    · have df : ((x.at_ : Int) == 0) = true := by rw [hf]; rfl
      go_wp2_with fail
      go_meet
      exact ⟨by simp [hf], rfl⟩
    · have df : ((x.at_ : Int) == 0) = false := beq_eq_false_iff_ne.2 (by omega)
      go_wp2_with fail
      go_meet
      exact ⟨by simp [hf], rfl⟩
  case rest =>
  obtain ⟨rfl, rfl⟩ := hcut
  go_upto_if 50 with (fail)
  go_cut [] (fun wc => RN w wc b (.slice (some ⟨gi, off, none⟩) zn vc) (.slice (some ⟨gs, 0, none⟩) S.ssn.length cap2) ((.slice (some ⟨gb, 0, none⟩) x.B.length bc, x) :: Z') { S with ssn := S.ssn' x } [.int .u16 x.s, .bool x.o, .slice (some ⟨gb, 0, none⟩) x.B.length bc, .int .i64 x.id, .int .i64 x.un, .int .i64 (x.at_ : Int), .int .u16 (S.num x)] [.int .u32 0, .int .u16 x.s, .int .u16 0, .bool (!x.o), .bool (decide (x.at_ = 0)), .bool false, .slice none 0 0])
  case first =>
    by_cases hf : x.at_ = 0 ∧ x.o = true
    · have hss0 := HX.out.s0
      have hss1 := HX.out.s1
      have df : (decide (x.at_ = 0) && x.o) = true := by simp [hf.1, hf.2]
      rw [df]
      have hsl : x.s.toNat < S.ssn.length := by omega
      have NX := Lib.hid (S.num_yes hf)
      have SX := Lib.hid (S.ssn'_yes hf)
      have hzr : 0 ≤ S.ssn.getD x.s.toNat 0 ∧ S.ssn.getD x.s.toNat 0 < 65536 := by
        have := HK.out.ks _ (List.getElem_mem hsl)
        simpa [hsl] using this
      have HZR := Lib.hid hzr
      clear hf df dx hzr
      obtain ⟨wd, hwd⟩ : ∃ wd, wd = wc.drew := ⟨_, rfl⟩
      have NR := Lib.hid (show RN w wd b _ _ _ _ _ _ from hwd ▸ HRN.out.past (turned_drew wc []))
      have HWD := Lib.hid hwd
      obtain ⟨sn1, sn2⟩ := NR.out.num x.s.toNat hsl
      have b4 := NR.out.p.1.cell 4 rfl
      have x0 := NR.out.x.cell 0 rfl
      have x6 := NR.out.x.cell 6 rfl
      have y6 := NR.out.x.free 6
      obtain ⟨sn, hsn⟩ : ∃ sn, S.ssn.getD x.s.toNat 0 = sn := ⟨_, rfl⟩
      rw [hsn] at sn1
      have HSN := Lib.hid hsn
      clear hwd hsn
      go_wp2_with fail
      refine region_tail 10 (by kernel_rfl) (by kernel_rfl) wd HWD.out ?_
      simp only [List.take_succ_cons, List.take_zero, List.drop_succ_cons, List.drop_zero]
      iterate 10 still_step
      refine wpStill_nil ?_
      go_wp2_with fail
      obtain ⟨w6, hw6⟩ : ∃ w6, wd.setCell ⟨w.heap.size + 1, 6, none⟩ (.int .u16 sn) = w6 := ⟨_, rfl⟩
      have N6 := Lib.hid (hw6 ▸ (NR.out.setX 6 (.int .u16 sn)).1)
      rw [hw6]
      clear hw6 x0 x6 y6 b4 sn1 sn2
      obtain ⟨wd7, hwd7⟩ : ∃ wd7, wd7 = w6.drew := ⟨_, rfl⟩
      have N7 := Lib.hid (show RN w wd7 b _ _ _ _ _ _ from hwd7 ▸ N6.out.past (turned_drew w6 []))
      have HWD7 := Lib.hid hwd7
      obtain ⟨sn1, sn2⟩ := N7.out.num x.s.toNat hsl
      rw [HSN.out] at sn1
      have b4 := N7.out.p.1.cell 4 rfl
      have x0 := N7.out.x.cell 0 rfl
      have hzr := HZR.out
      rw [HSN.out] at hzr
      obtain ⟨hz1, hz2⟩ := hzr
      have sw : IntKind.u16.wrap (sn + 1) = (sn + 1) % 65536 := by simp [IntKind.wrap, IntKind.signed, IntKind.bits]
      clear hwd7
      refine region_tail 11 (by kernel_rfl) (by kernel_rfl) wd7 HWD7.out ?_
      simp only [List.take_succ_cons, List.take_zero, List.drop_succ_cons, List.drop_zero]
      iterate 11 still_step
      refine wpStill_nil ?_
      go_wp2_with fail
      go_meet
      have hfin := N7.out.setN x.s.toNat hsl ((sn + 1) % 65536)
      rw [SX.out, NX.out, HSN.out]
      exact hfin
    · have df : (decide (x.at_ = 0) && x.o) = false := by cases hh : (decide (x.at_ = 0) && x.o); rfl; exact absurd (by simpa using hh) hf
      rw [df]
      have e1 : S.num x = x.ssn := if_neg hf
      have e2 : S.ssn' x = S.ssn := if_neg hf
      have B0 := Lib.hid (show RN w wc b (.slice (some ⟨gi, off, none⟩) zn vc) (.slice (some ⟨gs, 0, none⟩) S.ssn.length cap2) ((.slice (some ⟨gb, 0, none⟩) x.B.length bc, x) :: Z') { S with ssn := S.ssn' x } [.int .u16 x.s, .bool x.o, .slice (some ⟨gb, 0, none⟩) x.B.length bc, .int .i64 x.id, .int .i64 x.un, .int .i64 (x.at_ : Int), .int .u16 (S.num x)] [.int .u32 0, .int .u16 x.s, .int .u16 0, .bool (!x.o), .bool (decide (x.at_ = 0)), .bool false, .slice none 0 0] from by rw [e1, e2]; exact HRN.out)
      clear e1 e2
      go_wp2_with fail
      go_meet
      exact B0.out
  case rest =>
  have HN := Lib.hid hcut
  have x6 := HN.out.x.cell 6 rfl
  have d2 := HN.out.d.cell 2 rfl
  have f2 := HN.out.d.free 2
  clear hcut HRN dx
  go_upto_region 9 with (fail)
  obtain ⟨w8, hw8⟩ : ∃ w8, wc.setCell ⟨w.heap.size + 1 + 1, 2, none⟩ (.int .u16 (S.num x)) = w8 := ⟨_, rfl⟩
  have N8 := Lib.hid (hw8 ▸ (HN.out.setD 2 (.int .u16 (S.num x))).1)
  rw [hw8]
  clear hw8 x6 d2 f2 HN
  have hb1 := HX.out.b1
  have ha1 := HX.out.a1
  obtain ⟨lf, hlf⟩ : ∃ lf, x.at_ + lf = x.B.length := ⟨x.B.length - x.at_, by omega⟩
  have hkl : (k : Int) = min m (lf : Int) := by have := HKM.out; unfold IT.left at this; rw [this]; congr 1; omega
  obtain ⟨en, hen⟩ : ∃ en, en = x.at_ + k := ⟨_, rfl⟩
  have x2 := N8.out.x.cell 2 rfl
  have x5 := N8.out.x.cell 5 rfl
  obtain ⟨q, hq⟩ : ∃ q, IntKind.i64.wrap ((x.at_ : Int) + m) = q := ⟨_, rfl⟩
  have hqe : ¬ (x.B.length : Int) < m → min q (x.B.length : Int) = (en : Int) := fun h => by rw [← hq, IntWalk.i64_in _ (by omega)]; omega
  have HQE := Lib.hid hqe
  clear hqe
  obtain ⟨wb, hwb⟩ : ∃ wb, wb = wc := ⟨_, rfl⟩
  clear hwb wb
  go_cut [9] (fun t wz => t = .int .i64 (min q (x.B.length : Int)) ∧ wz = w8)
  case first =>
    go_wp2_with fail
    all_goals go_meet
    all_goals exact ⟨congrArg (Value.int .i64) (by omega), rfl⟩
  case rest =>
  obtain ⟨rfl, rfl⟩ := hcut
  have HQ := Lib.hid hq
  clear hq
  go_upto_if 89 with (fail)
  go_cut [9] (fun t wz => t = .int .i64 (en : Int) ∧ wz = wc)
  case first =>
    by_cases hgt : (x.B.length : Int) < m
    · have hge : (x.B.length : Int) = (en : Int) := by omega
      have HGE := Lib.hid hge
      have dg : decide ((x.B.length : Int) < m) = true := decide_eq_true hgt
      clear hge
      go_wp2_with fail
      go_meet
      exact ⟨congrArg (Value.int .i64) HGE.out, rfl⟩
    · have hge := HQE.out hgt
      have dg : decide ((x.B.length : Int) < m) = false := decide_eq_false hgt
      have HGE := Lib.hid hge
      clear hge
      go_wp2_with fail
      go_meet
      exact ⟨congrArg (Value.int .i64) HGE.out, rfl⟩
  case rest =>
  obtain ⟨rfl, rfl⟩ := hcut
  clear HQ HQE q
  have N9 := Lib.hid N8.out
  clear N8 x2 x5
  have hkn : k ≤ lf := by omega
  have hen1 : (x.at_ : Int) ≤ (en : Int) := by omega
  have hen2 : (en : Int) ≤ (bc : Int) := by omega
  have hnc : ¬ bc = x.at_ := by omega
  have hnc2 : ¬ bc ≤ x.at_ := by omega
  have hnc3 : ¬ bc - x.at_ = 0 := by omega
  have hen3 : (0 : Int) ≤ (x.at_ : Int) := by omega
  have hen4 : (0 : Int) ≤ (en : Int) := by omega
  have hen5 : x.at_ ≤ en := by omega
  have hen6 : en ≤ bc := by omega
  have hek : en - x.at_ = k := by omega
  have hlen : ((x.B.drop x.at_).take k).length = k := by simp; omega
  have hl1 : (x.B.drop x.at_).take k ≠ [] ∨ k = 0 := by
    rcases Nat.eq_zero_or_pos k with h | h
    · exact .inr h
    · exact .inl (fun e => by rw [e] at hlen; simp at hlen; omega)
  clear hl1
  have hLB := row_part (N9.out.p.2.2.2.2 (.slice (some ⟨gb, 0, none⟩) x.B.length bc, x) List.mem_cons_self) x.at_ k (bc - x.at_) (by show x.at_ + k ≤ x.B.length; omega) (by omega) (by have : bc ≤ 9223372036854775807 := hbc2; omega) HX.out.by_
  have te := turned_alloc (turned_refl wc []) (.cells #[] 5)
  have HLE := Lib.hid (show Lies (wc.alloc (.cells #[] 5)) 1 (.slice (some ⟨gb, x.at_, none⟩) k (bc - x.at_)) k (flat cB ((x.B.drop x.at_).take k)) from by have := (hLB.1.none_ te); rw [hlen] at this; exact this)
  have HW := Lib.hid (World.ownsRow_lit (base := wc.heap.size) (e := 5) (size := 1) wc #[] 0 (Nat.le_refl _) (by decide) rfl)
  have TE := Lib.hid te
  have NE := Lib.hid (N9.out.past te)
  have x2 := NE.out.x.cell 2 rfl
  have x5 := NE.out.x.cell 5 rfl
  have hk4 : k ≤ 1048576 := by omega
  have e1 : ((en : Int) == (x.B.length : Int)) = decide (x.at_ + k = x.B.length) := by rw [Bool.eq_iff_iff, beq_iff_eq, decide_eq_true_eq]; omega
  have hn9 : w.heap.size + 1 + 1 < wc.heap.size := N9.out.d.lt
  have HN9 := Lib.hid hn9
  have E1 := Lib.hid e1
  obtain ⟨i0, hi0, hz0, hz1, hz2⟩ := info_parts infoB
  have HEN := Lib.hid hen
  have HLF := Lib.hid hlf
  have HKL := Lib.hid hkl
  clear hLB te hlen e1 hn9 hen hlf hkl
  go_upto_region 13 with (first | (at_builtin; go_loud (refine wpList_append_lies' _ rfl _ _ 29 rfl wc.heap.size 5 i0 (.int .u8 0) 1 1 Try.underlying29 hi0 hz0 hz1 hz2 rfl (by decide) (.slice (some ⟨wc.heap.size, 0, none⟩) 0 0) 0 [] rfl HW.out (.slice (some ⟨gb, x.at_, none⟩) k (bc - x.at_)) k (flat cB ((x.B.drop x.at_).take k)) rfl HLE.out (flat_one cB_one _) (by unfold maxLen; omega) (by omega) TE.out.2.2.2.1 ?_; intro v' wA ha hg hl'; rw [Nat.zero_add, List.nil_append] at ha; obtain ⟨ra, rc, rfl, _, _, _⟩ := row_form ha; have NA := Lib.hid (N9.out.past (turned_new TE.out hg (fun k e => by simp [Value.ownBlock] at e; omega))); have RA2 := Lib.hid ha; have d6 := NA.out.d.cell 6 rfl; have f6 := NA.out.d.free 6; clear ha hg hl' x2 x5)) | fail)
  obtain ⟨w12, hw12⟩ : ∃ w12, wA.setCell ⟨w.heap.size + 1 + 1, 6, none⟩ (.slice ra k rc) = w12 := ⟨_, rfl⟩
  obtain ⟨n12, t12⟩ := NA.out.setD 6 (.slice ra k rc)
  rw [hw12] at n12 t12 ⊢
  have N12 := Lib.hid n12
  have R12 := Lib.hid (row_past RA2.out t12 (fun q hq e => by have h1 := (row_lt0 RA2.out q hq).1; have h2 := HN9.out; rw [List.mem_singleton.1 e] at h1; omega))
  have hRB : ∀ q, (Value.slice ra k rc).ownBlock = some q → w.heap.size + 1 + 1 < q := fun q hq => by have := (row_lt0 RA2.out q hq).1; have := HN9.out; omega
  have HRB := Lib.hid hRB
  clear hw12 n12 t12 hRB NA RA2 HW HLE TE NE d6 f6
  have x2 := N12.out.x.cell 2 rfl
  have x5 := N12.out.x.cell 5 rfl
  have y5 := N12.out.x.free 5
  have d5 := N12.out.d.cell 5 rfl
  have f5 := N12.out.d.free 5
  have e1 := E1.out
  go_upto_region 15 with (fail)
  obtain ⟨w14, hw14⟩ : ∃ w14, (w12.setCell ⟨w.heap.size + 1 + 1, 5, none⟩ (.bool (decide (x.at_ + k = x.B.length)))).setCell ⟨w.heap.size + 1, 5, none⟩ (.int .i64 (en : Int)) = w14 := ⟨_, rfl⟩
  obtain ⟨n13, t13⟩ := N12.out.setD 5 (.bool (decide (x.at_ + k = x.B.length)))
  obtain ⟨n14, t14⟩ := n13.setX 5 (.int .i64 (en : Int))
  have r13 := row_past R12.out t13 (fun q hq e => by have := HRB.out q hq; rw [List.mem_singleton.1 e] at this; omega)
  have r14 := row_past r13 t14 (fun q hq e => by have := HRB.out q hq; rw [List.mem_singleton.1 e] at this; omega)
  rw [hw14] at n14 t14 r14 ⊢
  have N14 := Lib.hid n14
  have R14 := Lib.hid r14
  clear hw14 n13 n14 t13 t14 r13 r14 x2 x5 y5 d5 f5 e1
  have te := turned_alloc (turned_refl w14 []) (.cells #[] 78)
  have NE := Lib.hid (N14.out.past te)
  have b0 := NE.out.p.1.cell 0 rfl
  have HLL := Lib.hid (show Lies (w14.alloc (.cells #[] 78)) 7 (.slice (some ⟨gi, off, none⟩) zn vc) zn (flat cY ((.slice (some ⟨gb, 0, none⟩) x.B.length bc, x) :: Z')) from by have := NE.out.p.2.1.lies; rw [hzn] at this; exact this)
  have HLO := Lib.hid (flatY_one NE.out.p.2.2.2.2)
  have HW := Lib.hid (World.ownsRow_lit (base := w14.heap.size) (e := 78) (size := 7) w14 #[] 0 (Nat.le_refl _) (by decide) rfl)
  have TE := Lib.hid te
  obtain ⟨i1, hi1, hy0, hy1, hy2⟩ := info_parts infoY
  have hzl : zn ≤ 1000000 := by
    have h1 := HK.out.l
    have h2 := congrArg List.length HP.out.2.2.2.1
    rw [List.length_map, hzn] at h2
    omega
  have hn14 : w.heap.size + 1 + 1 < w14.heap.size := N14.out.d.lt
  have HN14 := Lib.hid hn14
  clear te hn14
  go_upto_region 16 with (first | (at_builtin; go_loud (refine wpList_append_lies' _ rfl _ _ 74 rfl w14.heap.size 78 i1 _ 7 64 Try.underlying74 hi1 hy0 hy1 hy2 rfl (by decide) (.slice (some ⟨w14.heap.size, 0, none⟩) 0 0) 0 [] rfl HW.out (.slice (some ⟨gi, off, none⟩) zn vc) zn (flat cY ((.slice (some ⟨gb, 0, none⟩) x.B.length bc, x) :: Z')) rfl HLL.out HLO.out (by unfold maxLen; omega) (by omega) TE.out.2.2.2.1 ?_; intro v' w15 ha hg hl'; rw [Nat.zero_add, List.nil_append] at ha; obtain ⟨la, lc, rfl, hlc1, hlc2, hla⟩ := row_form ha; have t15 := turned_new (L := []) TE.out hg (fun k e => by simp [Value.ownBlock] at e; omega); have N15 := Lib.hid (N14.out.past t15); have R15 := Lib.hid (row_past R14.out t15 (by simp)); have HL15 := Lib.hid ha; clear ha hg hl' t15 b0)) | fail)
  obtain ⟨gl, rfl⟩ := hla hzp
  have hgl : w14.heap.size ≤ gl := (row_lt0 HL15.out gl rfl).1
  have hgln : w.heap.size + 1 + 1 < gl := by have := HN14.out; omega
  have HTH := Lib.hid ((offRow.of HL15.out).there (by simp))
  have hi0' : (0 : Int) < (zn : Int) := by omega
  clear hla TE HLL HLO HW NE
  go_upto_region 17 with (first
    | (refine wpList_load_row rfl _ _ rfl (w.heap.size + 1) rfl _ _ _ _ N15.out.x Try.underlying78 rfl (by kernel_rfl) ?_)
    | (refine wpList_store_mid rfl _ _ _ rfl gl 0 #[.int .u16 x.s, .bool x.o, .slice (some ⟨gb, 0, none⟩) x.B.length bc, .int .i64 x.id, .int .i64 x.un, .int .i64 (en : Int), .int .u16 (S.num x)] rfl rfl HTH.out (by kernel_rfl) (by rw [← Array.all_toList]; rfl) ?_)
    | fail)
  (try simp only [Act.put])
  obtain ⟨w16, hw16⟩ : ∃ w16, w15.setCells gl 0 [.int .u16 x.s, .bool x.o, .slice (some ⟨gb, 0, none⟩) x.B.length bc, .int .i64 x.id, .int .i64 x.un, .int .i64 (en : Int), .int .u16 (S.num x)] = w16 := ⟨_, rfl⟩
  obtain ⟨ho16, hg16⟩ := (offRow.of HL15.out).setFirst [.int .u16 x.s, .bool x.o, .slice (some ⟨gb, 0, none⟩) x.B.length bc, .int .i64 x.id, .int .i64 x.un, .int .i64 (en : Int), .int .u16 (S.num x)] rfl hzp
  have ho16' : offRow w16 w14.heap.size 78 7 (.slice (some ⟨gl, 0, none⟩) zn lc) zn (flat cY ((.slice (some ⟨gb, 0, none⟩) x.B.length bc, { x with at_ := en, ssn := S.num x }) :: Z')) := by
    rw [← hw16, flat_cons]
    rw [flat_cons, List.drop_left' (cY_len _)] at ho16
    exact ho16
  have t16 : turned w15 w16 [gl] := hw16 ▸ turned_grown (turned_refl _ _) hg16 (fun k e => by cases e; exact .inl (by simp))
  rw [hw16]
  have N16 := Lib.hid (N15.out.later t16 (fun k hk => by rw [List.mem_singleton.1 hk]; exact hgln))
  have R16 := Lib.hid (row_past R15.out t16 (fun q hq e => by have h1 := (row_lt0 R14.out q hq).2; rw [List.mem_singleton.1 e] at h1; omega))
  have HO16 := Lib.hid ho16'
  clear hw16 ho16 hg16 ho16' t16 HTH
  have d5 := N16.out.d.cell 5 rfl
  go_upto_if 123 with (fail)
  go_cut [10] (fun t wz => ∃ Z2 : List YT, offRow w16 w14.heap.size 78 7 t Z2.length (flat cY Z2) ∧ t.ownBlock = some gl ∧ Z2 = (if x.at_ + k = x.B.length then Z' else (.slice (some ⟨gb, 0, none⟩) x.B.length bc, { x with at_ := x.at_ + k, ssn := S.num x }) :: Z') ∧ wz = w16)
  case first =>
    have hzn2 : Z'.length = zn - 1 := by have := hzn; simp only [List.length_cons] at this; omega
    by_cases hlast : x.at_ + k = x.B.length
    · rw [decide_eq_true hlast]
      have z1 : (1 : Int) ≤ (zn : Int) := by omega
      have z2 : (1 : Int) ≤ (lc : Int) := by omega
      have z3 : 1 ≤ zn := by omega
      have z4 : 1 ≤ lc := by omega
      have hfr := HO16.out.from_ 1 z3
      rw [flat_cons, List.drop_left' (cY_len _)] at hfr
      have HFR := Lib.hid hfr
      have HLAST := Lib.hid hlast
      have HZN2 := Lib.hid hzn2
      clear hfr hlast hzn2
      by_cases hcc : lc = 1
      · have hfr := HFR.out
        rw [if_pos hcc] at hfr
        have HF2 := Lib.hid hfr
        have e0 : zn - 1 = 0 := by omega
        have E0 := Lib.hid e0
        clear hfr e0
        subst hcc
        go_wp2_with fail
        go_meet
        refine ⟨Z', ?_, rfl, by rw [if_pos HLAST.out], rfl⟩
        have := HF2.out
        rw [E0.out] at this
        rw [HZN2.out, E0.out]
        exact this
      · have hfr := HFR.out
        rw [if_neg hcc] at hfr
        have HF2 := Lib.hid hfr
        have z6 : ¬ lc ≤ 1 := by omega
        clear hfr
        go_wp2_with fail
        go_meet
        refine ⟨Z', ?_, rfl, by rw [if_pos HLAST.out], rfl⟩
        have := HF2.out
        rw [HZN2.out]
        exact this
    · rw [decide_eq_false hlast]
      have HLAST := Lib.hid hlast
      clear hlast
      go_wp2_with fail
      go_meet
      refine ⟨_, ?_, rfl, by rw [if_neg HLAST.out], rfl⟩
      have := HO16.out
      rw [HEN.out] at this
      rw [List.length_cons, hzn2, show zn - 1 + 1 = zn by omega]
      exact this
  case rest =>
  obtain ⟨Z2, hZ2, hv2, hZe, rfl⟩ := hcut
  obtain ⟨la2, lc2, rfl, _, _, _⟩ := hZ2.form
  have hy2' : ∀ z, z ∈ Z2 → byteIs wc z := fun z hz => by
    rw [hZe] at hz
    have hy := N16.out.p.2.2.2.2
    split at hz
    · exact hy z (List.mem_cons_of_mem _ hz)
    · rcases List.mem_cons.1 hz with rfl | hz
      · exact hy (.slice (some ⟨gb, 0, none⟩) x.B.length bc, x) List.mem_cons_self
      · exact hy z (List.mem_cons_of_mem _ hz)
  obtain ⟨p19, t19⟩ := N16.out.p.newL (hZ2.rebase (Nat.zero_le _)) hy2'
  have hSn : ({ ({ S with ssn := S.ssn' x } : QS) with L := Z2.map (·.2) } : QS) = S.next x L k := by
    have h4 := HP.out.2.2.2.1
    rw [HL.out] at h4
    simp only [List.map_cons, List.cons.injEq, true_and] at h4
    unfold QS.next
    rw [hZe]
    by_cases hc : x.at_ + k = x.B.length
    · simp only [if_pos hc, h4]
    · simp only [if_neg hc, List.map_cons, h4]
  have b0 := N16.out.p.1.cell 0 rfl
  have f0 := N16.out.p.1.free 0
  have HSN := Lib.hid hSn
  have HZE := Lib.hid hZe
  have HV2 := Lib.hid hv2
  clear hSn hZe hv2
  go_upto_region 20 with (fail)
  obtain ⟨w19, hw19⟩ : ∃ w19, wc.setCell ⟨b, 0, none⟩ (.slice la2 Z2.length lc2) = w19 := ⟨_, rfl⟩
  rw [hw19] at p19 t19 ⊢
  have hbl : b < w.heap.size := N16.out.lt b (rfoot_b _ _ _ _)
  have dD := N16.out.d.past t19 (fun e => by have := List.mem_singleton.1 e; omega)
  have dR := N16.out.r.past t19 (fun e => by have := List.mem_singleton.1 e; omega)
  have dX := N16.out.x.past t19 (fun e => by have := List.mem_singleton.1 e; omega)
  have P19 := Lib.hid p19
  have T19 := Lib.hid (show turned w w19 (rfoot b (.slice (some ⟨gi, off, none⟩) zn vc) (.slice (some ⟨gs, 0, none⟩) S.ssn.length cap2) ((.slice (some ⟨gb, 0, none⟩) x.B.length bc, x) :: Z')) from turned_trans N16.out.t (turned_more t19 (fun q hq => by rw [List.mem_singleton.1 hq]; exact rfoot_b _ _ _ _)))
  have R19 := Lib.hid (row_past R16.out t19 (fun q hq e => by have h1 := HRB.out q hq; rw [List.mem_singleton.1 e] at h1; omega))
  have DD := Lib.hid dD
  have DR := Lib.hid dR
  have DX := Lib.hid dX
  clear hw19 p19 t19 dD dR dX hZ2 hy2' b0 f0 d5
  refine wp_region_held_drew (S := fun w' => obj w' (w.heap.size + 1 + 1) 34 [.int .u32 0, .int .u16 x.s, .int .u16 (S.num x), .bool (!x.o), .bool (decide (x.at_ = 0)), .bool (decide (x.at_ + k = x.B.length)), .slice ra k rc] ∧ w'.cell? ⟨w.heap.size + 1, 3, none⟩ = some (.int .i64 x.id) ∧ ∃ cs, obj w' w.heap.size 34 cs ∧ cs.length = 7) (by kernel_rfl) ⟨DD.out, DX.out.cell 3 rfl, _, DR.out, rfl⟩ (fun hH => ?_)
  refine wpAnyH_take (i := 0) (v := .agg #[.int .u32 0, .int .u16 x.s, .int .u16 (S.num x), .bool (!x.o), .bool (decide (x.at_ = 0)), .bool (decide (x.at_ + k = x.B.length)), .slice ra k rc]) rfl (by kernel_rfl) (by kernel_rfl) (by kernel_rfl) (fun _ _ _ h => h) (Or.inl ⟨by rfl, fun w' hS => exec_load_row rfl _ _ rfl _ rfl _ _ _ _ hS.1 Try.underlying34 rfl (by kernel_rfl)⟩) hH ?_
  (try simp only [List.getElem_toArray, List.getElem_cons_succ, List.getElem_cons_zero, Act.put, List.setIfInBounds_toArray, List.set_cons_zero, List.set_cons_succ])
  refine wpAnyH_take (i := 1) (v := .pointer (some ⟨w.heap.size + 1, 3, none⟩)) rfl (by kernel_rfl) (by kernel_rfl) (by kernel_rfl) (fun _ _ _ h => h) (Or.inl ⟨by rfl, fun w' hS => (by go_simp)⟩) hH ?_
  (try simp only [List.getElem_toArray, List.getElem_cons_succ, List.getElem_cons_zero, Act.put, List.setIfInBounds_toArray, List.set_cons_zero, List.set_cons_succ])
  refine wpAnyH_take (i := 2) (v := .int .i64 x.id) rfl (by kernel_rfl) (by kernel_rfl) (by kernel_rfl) (fun _ _ _ h => h) (Or.inl ⟨by rfl, fun w' hS => (by have h3 := hS.2.1; clear hS; go_simp)⟩) hH ?_
  (try simp only [List.getElem_toArray, List.getElem_cons_succ, List.getElem_cons_zero, Act.put, List.setIfInBounds_toArray, List.set_cons_zero, List.set_cons_succ])
  refine wpAnyH_ready (rs := [3]) (by kernel_rfl) (by simp) ?_
  refine AllReadyH.cons rfl (fun K hK => ?_) AllReadyH.nil
  rw [if_pos (by rfl)]
  simp only [List.getElem_toArray, List.getElem_cons_succ, List.getElem_cons_zero]
  obtain ⟨c7, hR7, hl7⟩ := hH.2.2
  refine wp_store_row 34 _ _ rfl w.heap.size #[.int .u32 0, .int .u16 x.s, .int .u16 (S.num x), .bool (!x.o), .bool (decide (x.at_ = 0)), .bool (decide (x.at_ + k = x.B.length)), .slice ra k rc] rfl rfl 34 _ hR7 (by kernel_rfl) (by simpa using hl7) (by rw [← Array.all_toList]; rfl) ?_
  have tw := turned_setRow w19.drew w.heap.size #[.int .u32 0, .int .u16 x.s, .int .u16 (S.num x), .bool (!x.o), .bool (decide (x.at_ = 0)), .bool (decide (x.at_ + k = x.B.length)), .slice ra k rc]
  have hSt : obj (w19.drew.setRow w.heap.size #[.int .u32 0, .int .u16 x.s, .int .u16 (S.num x), .bool (!x.o), .bool (decide (x.at_ = 0)), .bool (decide (x.at_ + k = x.B.length)), .slice ra k rc]) w.heap.size 34 [.int .u32 0, .int .u16 x.s, .int .u16 (S.num x), .bool (!x.o), .bool (decide (x.at_ = 0)), .bool (decide (x.at_ + k = x.B.length)), .slice ra k rc] := setRow_heap w19.drew w.heap.size _ _ _ _ hR7
  refine hK.out _ _ ⟨hH.1.past tw (fun e => by have := List.mem_singleton.1 e; omega), turned_cell tw hH.2.1 (fun e => by have := List.mem_singleton.1 e; simp at this), _, hSt, rfl⟩ (fun hH2 => ?_)
  clear hK
  generalize w19.drew.setRow w.heap.size #[.int .u32 0, .int .u16 x.s, .int .u16 (S.num x), .bool (!x.o), .bool (decide (x.at_ = 0)), .bool (decide (x.at_ + k = x.B.length)), .slice ra k rc] = wz at tw hH2 hSt ⊢
  (try simp only [List.getElem_toArray, List.getElem_cons_succ, List.getElem_cons_zero, Act.put, List.setIfInBounds_toArray, List.set_cons_zero, List.set_cons_succ])
  refine wpAnyH_take (i := 4) (v := .int .i64 x.id) rfl (by kernel_rfl) (by kernel_rfl) (by kernel_rfl) (fun _ _ _ h => h) (Or.inl ⟨by rfl, fun w' hS => (by go_simp)⟩) hH2 ?_
  (try simp only [List.getElem_toArray, List.getElem_cons_succ, List.getElem_cons_zero, Act.put, List.setIfInBounds_toArray, List.set_cons_zero, List.set_cons_succ])
  refine wpAnyH_take (i := 5) (v := .bool true) rfl (by kernel_rfl) (by kernel_rfl) (by kernel_rfl) (fun _ _ _ h => h) (Or.inl ⟨by rfl, fun w' hS => (by go_simp)⟩) hH2 ?_
  (try simp only [List.getElem_toArray, List.getElem_cons_succ, List.getElem_cons_zero, Act.put, List.setIfInBounds_toArray, List.set_cons_zero, List.set_cons_succ])
  refine wpAnyH_done (by kernel_rfl) ?_ _
  have HST := Lib.hid hSt
  have TW := Lib.hid tw
  clear hH hH2 tw K hSt hR7 hl7
  (try simp only [Exit.inBlock, Exit.then])
  refine ‹∀ (a : Act) (w : World), Code.wp Try.prog Code.ret _ a w → _› _ _ ?_
  refine wp_ret ?_
  refine bodyPost_ret (results_cell3 rfl _ _ w.heap.size 34 #[.int .u32 0, .int .u16 x.s, .int .u16 (S.num x), .bool (!x.o), .bool (decide (x.at_ = 0)), .bool (decide (x.at_ + k = x.B.length)), .slice ra k rc] (0, 0) _ rfl HST.out Try.underlying34 rfl (by kernel_rfl)) rfl ?_
  have tt := turned_trans (turned_drew w19 [w.heap.size]) TW.out
  have P20 := P19.out.past tt (fun q hq e => by
    rw [List.mem_singleton.1 e] at hq
    simp only [rfoot, List.mem_cons, List.mem_append, List.mem_flatMap, Option.mem_toList] at hq
    rcases hq with hq | hq | hq | ⟨z, hz, hq⟩
    · omega
    · rw [HV2.out] at hq; cases hq; omega
    · have := N16.out.lt _ (rfoot_sv hq); omega
    · have hz' : ∃ z', z' ∈ ((Value.slice (some ⟨gb, 0, none⟩) x.B.length bc, x) :: Z') ∧ z'.1 = z.1 := by
        rw [HZE.out] at hz
        split at hz
        · exact ⟨z, List.mem_cons_of_mem _ hz, rfl⟩
        · rcases List.mem_cons.1 hz with rfl | hz
          · exact ⟨_, List.mem_cons_self, rfl⟩
          · exact ⟨z, List.mem_cons_of_mem _ hz, rfl⟩
      obtain ⟨z', hz1, hz2⟩ := hz'
      have := N16.out.lt _ (rfoot_z hz1 (hz2 ▸ hq))
      omega)
  refine ⟨ra, rc, rfl, ?_, ⟨_, HSN.out ▸ P20.is, ?_⟩, ?_⟩
  · exact row_past (row_to R19.out (by have := HN9.out; omega)) tt (fun q hq e => by have h1 := HRB.out q hq; rw [List.mem_singleton.1 e] at h1; omega)
  · intro q hq
    simp only [rfoot, List.mem_cons, List.mem_append, List.mem_flatMap, Option.mem_toList] at hq
    rcases hq with hq | hq | hq | ⟨z, hz, hq⟩
    · exact .inl (by rw [hq]; exact rfoot_b _ _ _ _)
    · rw [HV2.out] at hq; cases hq; exact .inr (by omega)
    · exact .inl (rfoot_sv hq)
    · have hz' : ∃ z', z' ∈ ((Value.slice (some ⟨gb, 0, none⟩) x.B.length bc, x) :: Z') ∧ z'.1 = z.1 := by
        rw [HZE.out] at hz
        split at hz
        · exact ⟨z, List.mem_cons_of_mem _ hz, rfl⟩
        · rcases List.mem_cons.1 hz with rfl | hz
          · exact ⟨_, List.mem_cons_self, rfl⟩
          · exact ⟨z, List.mem_cons_of_mem _ hz, rfl⟩
      obtain ⟨z', hz1, hz2⟩ := hz'
      exact .inl (rfoot_z hz1 (hz2 ▸ hq))
  · exact turned_narrow (turned_trans (turned_more T19.out (fun q hq => List.mem_append_left [w.heap.size] hq)) (turned_more tt (fun q hq => List.mem_append_right _ hq))) (fun q hq => by
      rcases List.mem_append.1 hq with h | h
      · exact .inl h
      · rw [List.mem_singleton.1 h]; exact .inr (Nat.le_refl _))
end Go.Proofs.Ytibnjakiagcopaa
