/- The walk of ForwardJoins. No condition. -/
import Derived.Test.YtdmoknijpapedaaFwdJoin
import Derived.Test.YtdmoknijpapedaaFwdCuts
namespace Go.Proofs.Ytdmoknijpapedaa
open Go.ChangeShapes Go.WideShapes Go.RowKit Go.Deep
set_option linter.unusedVariables false
set_option linter.unusedSimpArgs false

/-- What is told of the parts (blocks bA, bB) and of the whole (bF), in memory. -/
def JB (bA bB bF : Nat) (ca cb cf : Int) (sa sb sf : Value) (A B F : List (Int × Int)) (w : World) : Prop :=
  obj w bA 27 [.int .u32 ca, sa] ∧ obj w bB 27 [.int .u32 cb, sb] ∧ obj w bF 27 [.int .u32 cf, sf] ∧
    Lies w 2 sa A.length (flat cSk A) ∧ Lies w 2 sb B.length (flat cSk B) ∧ Lies w 2 sf F.length (flat cSk F)
theorem JB.none_ {bA bB bF : Nat} {ca cb cf : Int} {sa sb sf : Value} {A B F : List (Int × Int)} {w w' : World} (h : JB bA bB bF ca cb cf sa sb sf A B F w) (t : turned w w' []) : JB bA bB bF ca cb cf sa sb sf A B F w' :=
  ⟨h.1.past t (by simp), h.2.1.past t (by simp), h.2.2.1.past t (by simp), h.2.2.2.1.none_ t, h.2.2.2.2.1.none_ t, h.2.2.2.2.2.none_ t⟩
/-- The sum of both rows. -/
def Both (M : List (Int × Int)) (w3 : World) (v : Value) (wc : World) : Prop := Lies wc 2 v M.length (flat cSk M) ∧ turned w3 wc []

set_option maxRecDepth 100000 in
set_option maxHeartbeats 16000000 in
theorem joins_good (W : World) (cum first cut : Int) (v : Value) (X : List PD) (hc : 0 ≤ cum ∧ cum < 4294967296) (hf : 0 ≤ first ∧ first < 65536) (hcu : 0 ≤ cut ∧ cut < 256) (h : LiesD W v X) (hX : X.length ≤ 200) (hpos : 2 ≤ X.length) :
    Calls Try.prog 6 #[.int .u32 cum, .int .u16 first, v, .int .u8 cut] W fun e w' => e = .returned (.bool true) ∧ Below W.heap.size W w' := by
  obtain ⟨hc0, hcm⟩ := hc
  obtain ⟨hf0, hfm⟩ := hf
  obtain ⟨hu0, hum⟩ := hcu
  obtain ⟨a, cap, rfl, hc1, hc2⟩ := h.1.form
  have H := Lib.hid h
  obtain ⟨i0, hi0, hz0, hz1, hz2⟩ := info_parts infoD
  have hb0 : decide ((X.length : Int) < 2) = false := decide_eq_false (by omega)
  clear h
  go_enter Try.func6, Try.ntmps6
  go_wp2_with (first | (at_builtin; refine wpList_append_lies' _ rfl _ _ 23 rfl W.heap.size 34 i0 _ 7 40 Try.underlying23 hi0 hz0 hz1 hz2 rfl (by decide) _ 0 [] rfl (World.ownsRow_lit W #[] 0 (Nat.le_refl _) (by decide) rfl) _ X.length (flat cPD X) rfl (H.out.1.none_ (turned_alloc (turned_refl W []) _)) (flatPD_one X) (by unfold maxLen; omega) (by omega) (by simp) ?_) | go_in)
  intro v1 w1 ho hg hl
  have t1 : turned W w1 [] := turned_new (turned_alloc (turned_refl W []) _) hg (fun k e => by simp [Value.ownBlock] at e; omega)
  obtain ⟨a1, cap1, rfl, hd1, hd2, hsa⟩ := row_form ho
  obtain ⟨g, rfl⟩ := hsa (by omega)
  have HO := Lib.hid ho
  have T1 := Lib.hid t1
  have hd2' : cap1 ≤ 9223372036854775807 := hd2
  have hd1' : X.length ≤ cap1 := by omega
  clear ho hg hl t1 hsa hd2 hd1 hb0
  go_wp2
  go_loopw [10] (fun i wr => NLp W cum first X (some ⟨g, 0, none⟩) cap1 i wr) (fun i _ => X.length - (intOf i).toNat)
  case atStart => exact ⟨0, Nat.zero_le _, rfl, by rw [mapTo_zero]; exact HO.out, T1.out⟩
  case round =>
    clear HO T1
    obtain ⟨j, hj, rfl, ho, ht⟩ := hrel
    have HO := Lib.hid ho
    have HT := Lib.hid ht
    clear ho ht
    by_cases hlt : j < X.length
    · have hl : j < (mapTo (seqN cum first) j X).length := by rw [mapTo_len]; exact hlt
      have e0' := HO.out.cellAt (j * 7 + 0) (by omega)
      rw [flat_at cPD_len _ j hl 0 (by omega)] at e0'
      have e0 : wr.cell? ⟨g, j * 7, none⟩ = some (.int .u32 ((mapTo (seqN cum first) j X)[j]'hl).t) := e0'
      have e2' := HO.out.cellAt (j * 7 + 2) (by omega)
      rw [flat_at cPD_len _ j hl 2 (by omega), mapTo_at _ _ _ _ hlt, if_neg (Nat.lt_irrefl _)] at e2'
      have e2 : wr.cell? ⟨g, j * 7 + 2, none⟩ = some (.int .u16 (X[j]'hlt).n) := e2'
      have ef := HO.out.frozenAt (j * 7)
      have ef2 := HO.out.frozenAt (j * 7 + 2)
      have hok := H.out.2 _ (List.getElem_mem hlt)
      have hn0 := hok.n0
      have hn1 := hok.n1
      have hstep := nlp_step hlt HO.out
      obtain ⟨x, hx⟩ : ∃ x, X[j]'hlt = x := ⟨_, rfl⟩
      rw [hx] at e2 hn0 hn1 hstep
      have HS := Lib.hid hstep
      have hw1 : IntKind.u16.wrap (first + x.n % 16384) = (first + x.n % 16384) % 65536 := IntKind.wrap_u16 _
      clear e0' e2' hok hx hstep
      go_wp2
      go_roundw
      case rel => exact ⟨j + 1, by omega, by go_num, HS.out, turned_setNew (turned_setNew HT.out (HO.out.lt g rfl).1 _) (HO.out.lt g rfl).1 _⟩
      case measure => simp only [intOf]; omega
    · have hjn : j = X.length := by omega
      subst hjn
      have LZ : LiesD wr (.slice (some ⟨g, 0, none⟩) X.length cap1) (rowN cum first X) := lies_row HO.out (rowN_len _ _ _).symm (rowN_ok H.out.2)
      have hrow := rowN_row (cum := cum) (first := first) (X := X) (by omega)
      have hlen := rowN_len cum first X
      have htt := fun i hi => rowN_t (cum := cum) (first := first) (X := X) i hi
      have hnear := rowN_near (cum := cum) (first := first) (X := X)
      generalize rowN cum first X = Z at LZ hrow hlen htt hnear
      obtain ⟨k, hk⟩ : ∃ k : Nat, 1 + cut % ((X.length : Int) - 1) = (k : Int) := ⟨(1 + cut % ((X.length : Int) - 1)).toNat, by have := Int.emod_nonneg cut (show (X.length : Int) - 1 ≠ 0 by omega); omega⟩
      have hk0 : 0 < k := by have := Int.emod_nonneg cut (show (X.length : Int) - 1 ≠ 0 by omega); omega
      have hkn : k < X.length := by have := Int.emod_lt_of_pos cut (show (0 : Int) < (X.length : Int) - 1 by omega); omega
      have hla := last_take htt hk0 (by rw [hlen]; exact hkn)
      have hlb := last_drop htt hk0 (by rw [hlen]; exact hkn)
      have hlf := last_all htt (by rw [hlen]; omega)
      rw [hlen] at hlb hlf
      have HPA := Lib.hid (part_take htt hk0 (by rw [hlen]; exact hkn))
      have HPB := Lib.hid (part_drop htt hk0 (by rw [hlen]; exact hkn))
      have hjoin : ∀ e, e ∈ told Z → topS first e.1 (told (Z.take k) ++ told (Z.drop k)) = dst first e.2 := by
        have := joined (f := first) (A := Z.take k) (B := Z.drop k) (by rw [List.take_append_drop]; exact hnear)
        rw [List.take_append_drop] at this
        exact this
      have hjl : (told Z).length ≤ (told (Z.take k)).length + (told (Z.drop k)).length := by
        have := told_app_len (Z.take k) (Z.drop k)
        rw [List.take_append_drop] at this
        exact this
      have hsz1 := told_len (Z.take k)
      have hsz2 := told_len (Z.drop k)
      rw [List.length_take] at hsz1
      rw [List.length_drop] at hsz2
      have HLZ := Lib.hid LZ
      have HLEN := Lib.hid hlen
      have HROW := Lib.hid hrow
      have HJ := Lib.hid hjoin
      have HLA := Lib.hid hla
      have HLB := Lib.hid hlb
      have HLF := Lib.hid hlf
      have HJL := Lib.hid hjl
      have hz1' : (told (Z.take k)).length ≤ 200 := by omega
      have hz2' : (told (Z.drop k)).length ≤ 200 := by omega
      have hwk : IntKind.u32.wrap (k : Int) = (k : Int) := by rw [IntKind.wrap_u32]; omega
      clear LZ hrow hlen htt hnear hjoin hla hlb hlf hjl hsz1 hsz2 HO
      go_wp2_with fail
      refine (make_row cum _ _ _ ⟨hc0, hcm⟩ (liesD_take HLZ.out HLEN.out.symm (by omega)) (by rw [List.length_take]; omega) HPA.out).mono ?_
      rintro e w2 ⟨svA, rfl, hoA, t2⟩
      rw [HLA.out]
      obtain ⟨aA, cA, rfl, hA1, hA2, _⟩ := row_form hoA
      have hA2' : cA ≤ 9223372036854775807 := hA2
      have tb := turned_alloc (turned_refl w2 []) (.cells #[.int .u32 ((cum + (k : Int)) % 4294967296), .slice aA (told (Z.take k)).length cA] 27)
      have OA := Lib.hid (obj.new w2 27 [.int .u32 ((cum + (k : Int)) % 4294967296), .slice aA (told (Z.take k)).length cA])
      have LA := Lib.hid ((Lies.row hoA).none_ tb)
      have T2 := Lib.hid (turned_trans t2 tb)
      have HLZ2 := Lib.hid (HLZ.out.none_ (turned_trans t2 tb))
      clear hoA hA2 t2 tb
      go_wp2_with fail
      generalize (w2.alloc (.cells #[.int .u32 ((cum + (k : Int)) % 4294967296), .slice aA (told (Z.take k)).length cA] 27)) = w3 at OA LA T2 HLZ2 ⊢
      generalize w2.heap.size = bA at OA ⊢
      refine (make_row ((cum + (k : Int)) % 4294967296) _ (Z.drop k) _ ⟨by omega, by omega⟩ (by have := liesD_drop HLZ2.out HLEN.out.symm hkn; rw [Nat.zero_add] at this; exact this) (by rw [List.length_drop, HLEN.out]; omega) HPB.out).mono ?_
      rintro e w4 ⟨svB, rfl, hoB, t4⟩
      rw [HLB.out]
      obtain ⟨aB, cB, rfl, hB1, hB2, _⟩ := row_form hoB
      have hB2' : cB ≤ 9223372036854775807 := hB2
      have tb := turned_alloc (turned_refl w4 []) (.cells #[.int .u32 ((cum + (X.length : Int)) % 4294967296), .slice aB (told (Z.drop k)).length cB] 27)
      have OB := Lib.hid (obj.new w4 27 [.int .u32 ((cum + (X.length : Int)) % 4294967296), .slice aB (told (Z.drop k)).length cB])
      have LB := Lib.hid ((Lies.row hoB).none_ tb)
      have OA4 := Lib.hid (OA.out.past (turned_trans t4 tb) (by simp))
      have LA4 := Lib.hid (LA.out.none_ (turned_trans t4 tb))
      have T4 := Lib.hid (turned_trans T2.out (turned_trans t4 tb))
      have HLZ4 := Lib.hid (HLZ2.out.none_ (turned_trans t4 tb))
      clear hoB hB2 t4 tb
      go_wp2_with fail
      generalize (w4.alloc (.cells #[.int .u32 ((cum + (X.length : Int)) % 4294967296), .slice aB (told (Z.drop k)).length cB] 27)) = w4' at OB LB OA4 LA4 T4 HLZ4 ⊢
      generalize w4.heap.size = bB at OB ⊢
      refine (make_row cum _ Z _ ⟨hc0, hcm⟩ HLZ4.out (by rw [HLEN.out]; omega) HROW.out).mono ?_
      rintro e w6 ⟨svF, rfl, hoF, t6⟩
      rw [HLF.out]
      obtain ⟨aF, cF, rfl, hF1, hF2, _⟩ := row_form hoF
      have hF2' : cF ≤ 9223372036854775807 := hF2
      have tb := turned_alloc (turned_refl w6 []) (.cells #[.int .u32 ((cum + (X.length : Int)) % 4294967296), .slice aF (told Z).length cF] 27)
      have J0 : JB bA bB w6.heap.size ((cum + (k : Int)) % 4294967296) ((cum + (X.length : Int)) % 4294967296) ((cum + (X.length : Int)) % 4294967296) (.slice aA (told (Z.take k)).length cA) (.slice aB (told (Z.drop k)).length cB) (.slice aF (told Z).length cF) (told (Z.take k)) (told (Z.drop k)) (told Z) (w6.alloc (.cells #[.int .u32 ((cum + (X.length : Int)) % 4294967296), .slice aF (told Z).length cF] 27)) :=
        ⟨OA4.out.past (turned_trans t6 tb) (by simp), OB.out.past (turned_trans t6 tb) (by simp), obj.new w6 _ _, LA4.out.none_ (turned_trans t6 tb), LB.out.none_ (turned_trans t6 tb), (Lies.row hoF).none_ tb⟩
      have HJ0 := Lib.hid J0
      have T5 := Lib.hid (turned_trans HT.out (turned_trans T4.out (turned_trans t6 tb)))
      have hz3' : (told Z).length ≤ 400 := by have := HJL.out; omega
      have nz : ((cum + (X.length : Int)) % 4294967296 != (cum + (X.length : Int)) % 4294967296) = false := by simp
      have nz2 : ((cum + (k : Int)) % 4294967296 != (cum + (k : Int)) % 4294967296) = false := by simp
      have p1 := J0.2.2.1.cell 0 rfl
      have p2 := J0.2.1.cell 0 rfl
      have p3 := J0.1.cell 0 rfl
      have hjlZ : ((told Z).length : Int) ≤ ((told (Z.take k)).length : Int) + ((told (Z.drop k)).length : Int) := by have := HJL.out; omega
      clear hoF hF2 t6 tb J0
      go_upto_region 13 with (fail)
      generalize told Z = F at HJ0 HJ T5 hF1 hz3' HJL hjlZ p1 p2 p3 ⊢
      generalize told (Z.take k) = MA at HJ0 HJ hA1 hz1' HJL hjlZ p1 p2 p3 ⊢
      generalize told (Z.drop k) = MB at HJ0 HJ hB1 hz2' HJL hjlZ p1 p2 p3 ⊢
      generalize (w6.alloc (.cells #[.int .u32 ((cum + (X.length : Int)) % 4294967296), .slice aF F.length cF] 27)) = w5 at HJ0 T5 p1 p2 p3 ⊢
      generalize w6.heap.size = bF at HJ0 p1 ⊢
      go_wp2
      clear p1 p2 p3 nz nz2
      go_loopw [18] (fun i wr => ∃ j : Nat, j ≤ F.length ∧ i = .int .i64 (j : Int) ∧ turned w5 wr []) (fun i _ => F.length - (intOf i).toNat)
      case atStart => exact ⟨0, Nat.zero_le _, rfl, turned_refl _ _⟩
      case round =>
        obtain ⟨i, hi, rfl, hti⟩ := hrel
        have HTI := Lib.hid hti
        clear hti
        have hj := HJ0.out.none_ HTI.out
        have p1 := hj.2.2.1.cell 1 rfl
        have p2 := hj.2.1.cell 1 rfl
        have p3 := hj.1.cell 1 rfl
        have HJI := Lib.hid hj
        clear hj
        by_cases hilt : i < F.length
        · obtain ⟨e, he⟩ : ∃ e, F[i]'hilt = e := ⟨_, rfl⟩
          have hem : e ∈ F := by rw [← he]; exact List.getElem_mem hilt
          have hje := HJ.out e hem
          have HE := Lib.hid he
          have HJE := Lib.hid hje
          clear he hem hje
          go_upto_region 20 with (fail)
          go_cut [21] from 120 to 174 (fun v wc => ∃ ad cp, v = .slice ad (MA ++ MB).length cp ∧ Both (MA ++ MB) w5 v wc)
          case first =>
            obtain ⟨i1, hj0, hj1, hj2, hj3⟩ := info_parts infoSk
            have EA := Lib.hid (obj.new wr 41 [])
            have te := turned_alloc (turned_refl wr []) (.cells #[] 41)
            have TE := Lib.hid te
            have q2 := cell_al2 p2 (.cells #[] 41)
            have q3 := cell_al2 p3 (.cells #[] 41)
            have M1 := Lib.hid (show 0 + MA.length ≤ maxLen by unfold maxLen; omega)
            have M2 := Lib.hid (show (0 + MA.length) * 4 ≤ 140737488355328 by omega)
            have M3 := Lib.hid (show MA.length + MB.length ≤ maxLen by unfold maxLen; omega)
            have M4 := Lib.hid (show (MA.length + MB.length) * 4 ≤ 140737488355328 by omega)
            clear te
            go_region_held3 (fun w' => w'.cell? ⟨bA, 1, none⟩ = some (.slice aA MA.length cA) ∧ w'.cell? ⟨bB, 1, none⟩ = some (.slice aB MB.length cB)) (first | (simp [go_sem, *]; done) | assumption) (first
              | (refine step_append_lies' (P := Try.prog) _ rfl _ _ 25 rfl wr.heap.size 41 i1 (.agg #[.int .u16 0, .int .u16 0]) 2 4 Try.underlying25 hj0 hj1 hj2 hj3 rfl (by decide) _ 0 [] rfl (row_empty EA.out (Nat.le_refl _)) _ MA.length (flat cSk MA) rfl (HJI.out.2.2.2.1.none_ TE.out) (flat_one cSk_one _) M1.out M2.out TE.out.2.2.2.1 ?_; intro v' w' ho hg hl; rw [Nat.zero_add, List.nil_append] at ho; obtain ⟨a', c', rfl, _⟩ := row_form ho; have tw := turned_new (turned_drew' TE.out) hg (fun k e => by have e' : some wr.heap.size = some k := e; cases e'; exact Nat.le_refl _); have r2 := (HJI.out.none_ tw).2.1.cell 1 rfl; have r3 := (HJI.out.none_ tw).1.cell 1 rfl; have TW := Lib.hid tw; have HOA := Lib.hid ho; clear ho hg hl tw)
              | (refine step_append_lies' (P := Try.prog) _ rfl _ _ 25 rfl wr.heap.size 41 i1 (.agg #[.int .u16 0, .int .u16 0]) 2 4 Try.underlying25 hj0 hj1 hj2 hj3 rfl (by decide) _ MA.length (flat cSk MA) rfl HOA.out _ MB.length (flat cSk MB) rfl (HJI.out.2.2.2.2.1.none_ TW.out) (flat_one cSk_one _) M3.out M4.out TW.out.2.2.2.1 ?_; intro v' w'' ho hg hl; obtain ⟨a'', c'', rfl, _⟩ := row_form ho; have tw2 := turned_new TW.out hg (fun k e => (HOA.out.lt k e).1); have s2 := (HJI.out.none_ tw2).2.1.cell 1 rfl; have s3 := (HJI.out.none_ tw2).1.cell 1 rfl; have TW2 := Lib.hid tw2; have HOB := Lib.hid ho; clear ho hg hl tw2))
            go_wp2
            go_meet
            refine ⟨_, _, by rw [List.length_append], ?_, turned_trans HTI.out TW2.out⟩
            rw [List.length_append, flat_app]
            exact Lies.row HOB.out
          case rest =>
            obtain ⟨ad, cp, rfl, hbo, htw⟩ := hcut
            have HBO := Lib.hid hbo
            have HTW := Lib.hid htw
            have hcp := hbo.form
            obtain ⟨ad', cp', ec, hcp1, hcp2⟩ := hcp
            cases ec
            have hml : (MA ++ MB).length ≤ 400 := by rw [List.length_append]; omega
            have hf0 : topS first e.1 ((MA ++ MB).take 0) = -1 := rfl
            clear hbo htw p1 p2 p3
            generalize MA ++ MB = M at HBO HJE hcp1 hml hf0 ⊢
            go_wp2
            obtain ⟨wq, rfl⟩ : ∃ wq : World, wq = wc := ⟨_, rfl⟩
            go_loopw [19, 20, 22] (fun l s q wr => ∃ qq : Nat, qq ≤ M.length ∧ l = .int .u16 (max 0 (topS first e.1 (M.take qq))) ∧ s = .bool (decide (0 ≤ topS first e.1 (M.take qq))) ∧ q = .int .i64 (qq : Int) ∧ turned wq wr []) (fun _ _ q _ => M.length - (intOf q).toNat)
            case atStart => exact ⟨0, Nat.zero_le _, by rw [hf0]; rfl, by rw [hf0]; rfl, rfl, turned_refl _ _⟩
            case round =>
              obtain ⟨qq, hqq, rfl, rfl, rfl, htk⟩ := hrel
              have HTK := Lib.hid htk
              clear htk
              have hj := HJ0.out.none_ (turned_trans HTW.out HTK.out)
              have p1 := hj.2.2.1.cell 1 rfl
              by_cases hqlt : qq < M.length
              · obtain ⟨bm, offm, rfl, m0, m1⟩ := lies_sk (HBO.out.none_ HTK.out) rfl qq hqlt
                obtain ⟨bs, offs, rfl, d0, d1⟩ := lies_sk hj.2.2.2.2.2 rfl i hilt
                rw [HE.out] at d0
                have hstep := topS_take first e.1 M qq hqlt
                obtain ⟨y, hy⟩ : ∃ y, M[qq]'hqlt = y := ⟨_, rfl⟩
                rw [hy] at m0 m1 hstep
                have hge := topS_ge first e.1 (M.take qq)
                obtain ⟨T, hT⟩ : ∃ T, topS first e.1 (M.take qq) = T := ⟨_, rfl⟩
                rw [hT] at hstep hge ⊢
                have HST := Lib.hid hstep
                have w1 := wrap16 y.2 first
                have hd0 := dst_nonneg first y.2
                clear hstep hy hT d1 hj
                cases hs : (y.1 == e.1) with
                | false =>
                  have HS := Lib.hid (show ¬ y.1 = e.1 by simpa using hs)
                  go_wp2
                  go_quiet (fail)
                  go_wp2
                  go_roundw
                  case rel =>
                    refine ⟨qq + 1, by omega, ?_, ?_, by go_num, turned_drewN' _ HTK.out⟩
                    · rw [HST.out, if_neg HS.out]; congr 1; omega
                    · rw [HST.out, if_neg HS.out]; congr 1; rw [decide_eq_decide]; omega
                  case measure => simp only [intOf]; omega
                | true =>
                  have HS := Lib.hid (show y.1 = e.1 by simpa using hs)
                  go_wp2
                  go_quiet (fail)
                  go_wp2
                  go_roundw
                  case rel =>
                    refine ⟨qq + 1, by omega, ?_, ?_, by go_num, turned_drewN' _ HTK.out⟩
                    · rw [HST.out, if_pos HS.out]; congr 1; split <;> omega
                    · rw [HST.out, if_pos HS.out]; congr 1; exact (decide_eq_true (by omega)).symm
                  case measure => simp only [intOf]; omega
              · have hqn : qq = M.length := by omega
                have hT : topS first e.1 (M.take qq) = dst first e.2 := by rw [hqn, List.take_length]; exact HJE.out
                obtain ⟨bs, offs, rfl, d0, d1⟩ := lies_sk hj.2.2.2.2.2 rfl i hilt
                rw [HE.out] at d1
                have w1 := wrap16 e.2 first
                have hd0 := dst_nonneg first e.2
                have hmx : max 0 (dst first e.2) = dst first e.2 := by omega
                have hdd : decide (0 ≤ dst first e.2) = true := decide_eq_true hd0
                have hne : (dst first e.2 != dst first e.2) = false := by simp
                rw [hT, hmx, hdd]
                clear hT hmx hdd d0 hj
                go_wp2
                go_roundw
                case rel => exact ⟨i + 1, by omega, by go_num, turned_trans HTW.out HTK.out⟩
                case measure => simp only [intOf]; omega
        · go_wp2_with (go_at_call 8; refine (works_any _).mono ?_; rintro e w9 ⟨rfl, g9⟩)
          go_ret
          exact ⟨rfl, turned_below (turned_trans (turned_trans T5.out HTI.out) g9)⟩

set_option maxRecDepth 100000 in
set_option maxHeartbeats 1000000 in
theorem forwardJoins.walk (W : World) (cum : Int) (hw : (Lit.int .u32 cum).wf = true) (first : Int) (hf : (Lit.int .u16 first).wf = true) (v : Value) (X : List PD) (h : LiesD W v X) (cut : Int) (hu : (Lit.int .u8 cut).wf = true) :
    Calls Try.prog 6 #[.int .u32 cum, .int .u16 first, v, .int .u8 cut] W fun e w' => e = .returned (.bool true) ∧ Below W.heap.size W w' := by
  by_cases hn : X.length ≤ 200
  · by_cases h0 : 2 ≤ X.length
    · exact joins_good W cum first cut v X (wf_u32_range hw) (wf_u16_range hf) (wf_u8_range hu) h hn h0
    · obtain ⟨a, cap, rfl, hc1, hc2⟩ := h.1.form
      clear h
      have h2 : X.length < 2 := by omega
      go_enter Try.func6, Try.ntmps6
      go_wp2_with (go_at_call 8; refine (works_any _).mono ?_; rintro e w9 ⟨rfl, g9⟩)
      go_ret
      exact ⟨rfl, turned_below g9⟩
  · obtain ⟨a, cap, rfl, hc1, hc2⟩ := h.1.form
    clear h
    have h2 : 200 < X.length := by omega
    go_enter Try.func6, Try.ntmps6
    go_wp2_with (go_at_call 8; refine (works_any _).mono ?_; rintro e w9 ⟨rfl, g9⟩)
    go_ret
    exact ⟨rfl, turned_below g9⟩
end Go.Proofs.Ytdmoknijpapedaa
