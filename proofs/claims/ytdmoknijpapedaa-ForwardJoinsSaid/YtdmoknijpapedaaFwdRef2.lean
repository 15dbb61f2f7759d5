/- What the document tells of a row of pieces that is one. Conditions: the pieces lie in memory; at most 1000. -/
import Derived.Test.YtdmoknijpapedaaFwdRef
namespace Go.Proofs.Ytdmoknijpapedaa
open Go.RowKit Go.Maps Go.Deep
set_option linter.unusedVariables false
set_option linter.unusedSimpArgs false

/-- What is told so far: S. -/
def NRel (w : World) (cum : Int) (X : List PD) (S : List (Int × Int)) (sv : Value) (wr : World) : Prop :=
  turned w wr [] ∧ obj wr w.heap.size 27 [.int .u32 0, .slice none 0 0] ∧ obj wr (w.heap.size + 1) 27 [.int .u32 (lastT X), sv] ∧
    wr.ownsRow w.heap.size 41 2 sv S.length (flat cSk S)
theorem NRel.drewN {w : World} {cum : Int} {X : List PD} {S : List (Int × Int)} {sv : Value} {wr : World} (h : NRel w cum X S sv wr) (n : Nat) : NRel w cum X S sv (wr.drewN n) := h
theorem NRel.drew {w : World} {cum : Int} {X : List PD} {S : List (Int × Int)} {sv : Value} {wr : World} (h : NRel w cum X S sv wr) : NRel w cum X S sv wr.drew := h
theorem NRel.sep {w : World} {cum : Int} {X : List PD} {S : List (Int × Int)} {sv : Value} {wr : World} (h : NRel w cum X S sv wr) : sv.ownBlock ≠ some (w.heap.size + 1) ∧ sv.ownBlock ≠ some w.heap.size ∧ (∀ g, sv.ownBlock = some g → w.heap.size ≤ g) := by
  obtain ⟨h1, h2, h3, h4⟩ := h
  exact ⟨row_ne h4 h3 (by decide), row_ne h4 h2 (by decide), fun g hg => (h4.lt g hg).1⟩
/-- One more. -/
theorem NRel.fresh {w : World} {cum : Int} {X : List PD} {S : List (Int × Int)} {sv : Value} {s n : Int} {wr wb w3 : World} {o2 : Obj} {v' : Value} (h : NRel w cum X S sv wr) (eb : wb = wr.alloc o2) (g3 : wb.grownBy w3 sv.ownBlock)
    (hr : w3.ownsRow w.heap.size 41 2 v' (S.length + 1) (flat cSk S ++ [.int .u16 s, .int .u16 n]))
    (hl : v'.ownBlock = sv.ownBlock ∨ v'.ownBlock = some wb.heap.size) :
    obj w3 (w.heap.size + 1) 27 [.int .u32 (lastT X), sv] ∧ NRel w cum X (S ++ [(s, n)]) v' (w3.setCell ⟨w.heap.size + 1, 1, none⟩ v') := by
  have sep := h.sep
  obtain ⟨h1, h2, h3, h4⟩ := h
  subst eb
  have hbf : w.heap.size + 1 < (wr.alloc o2).heap.size := (h3.alloc o2).lt
  have hsz3 := g3.size
  have t3 : turned wr w3 sv.ownBlock.toList := turned_grown (turned_alloc (turned_refl wr _) _) g3 (fun k e => Or.inl (by simp [e]))
  have o3 : obj w3 (w.heap.size + 1) 27 [.int .u32 (lastT X), sv] := h3.past t3 (by
    simp only [Option.mem_toList]
    exact sep.1)
  have n3 : obj w3 w.heap.size 27 [.int .u32 0, .slice none 0 0] := h2.past t3 (by
    simp only [Option.mem_toList]
    exact sep.2.1)
  have ts : turned w3 (w3.setCell ⟨w.heap.size + 1, 1, none⟩ v') [w.heap.size + 1] := turned_set (turned_refl w3 [w.heap.size + 1]) (List.mem_singleton.2 rfl) _
  have hvb : v'.ownBlock ≠ some (w.heap.size + 1) := by
    rcases hl with e1 | e1 <;> rw [e1]
    · exact sep.1
    · simp at hbf ⊢; omega
  refine ⟨o3, ?_, n3.past ts (by simp), o3.set 1 v', ?_⟩
  · have : turned w w3 [] := ⟨t3.1.trans h1.1, t3.2.1.trans h1.2.1, t3.2.2.1.trans h1.2.2.1, Nat.le_trans h1.2.2.2.1 t3.2.2.2.1, fun k hk _ => by
      rw [t3.2.2.2.2 k (Nat.lt_of_lt_of_le hk h1.2.2.2.1) (by
        simp only [Option.mem_toList]
        intro e
        have := sep.2.2 k e; omega)]
      exact h1.2.2.2.2 k hk (by simp)⟩
    exact turned_setNew this (by omega) _
  · rw [flat_app, flat_single, List.length_append]
    exact row_past hr ts (fun g hg e => hvb (by rw [hg, List.mem_singleton.1 e]))
/-- One turned. -/
theorem NRel.again {w : World} {cum : Int} {X : List PD} {S : List (Int × Int)} {k : Nat} {wr wd : World} {g cap : Nat} {s n : Int} (h : NRel w cum X S (.slice (some ⟨g, 0, none⟩) S.length cap) wr) 
    (hk : k < S.length) (hs : (S[k]'hk).1 = s) (ed : wd = wr.drew) :
    NRel w cum X (S.set k (s, n)) (.slice (some ⟨g, 0, none⟩) S.length cap) (wd.setCell ⟨g, k * 2 + 1, none⟩ (.int .u16 n)) := by
  have sep := h.sep
  obtain ⟨h1, h2, h3, h4⟩ := h
  subst ed
  have hg : (Value.slice (some ⟨g, 0, none⟩) S.length cap).ownBlock = some g := rfl
  rw [hg] at sep
  have s2 : w.heap.size + 1 ≠ g := fun e => sep.1 (by rw [e])
  have s4 : w.heap.size ≠ g := fun e => sep.2.1 (by rw [e])
  have s5 := sep.2.2 g rfl
  have ts : turned wr (wr.drew.setCell ⟨g, k * 2 + 1, none⟩ (.int .u16 n)) [g] := turned_set (turned_drew wr [g]) (List.mem_singleton.2 rfl) _
  refine ⟨?_, h2.past ts (by simp; exact s4), h3.past ts (by simp; exact s2), ?_⟩
  · exact turned_setNew (turned_drew' h1) s5 _
  · rw [List.length_set]
    have := (World.ownsRow.stored h4 (k * 2 + 1) (.int .u16 n)).1
    rw [flat_set cSk_len S k hk 1 (by omega) _ (s, n) (by rw [← hs]; rfl)] at this
    exact this

theorem cell_al {w : World} {a : Addr} {v : Value} (h : w.cell? a = some v) (o : Obj) : (w.alloc o).cell? a = some v :=
  turned_cell (L := []) (turned_alloc (turned_refl w []) o) h (by simp)
theorem lss_self (m a : Int) : lss m a a = false := by simp [lss]
def NLoop (w : World) (cum : Int) (X : List PD) (i : Value) (wr : World) : Prop := ∃ (j : Nat) (sv : Value), j ≤ X.length ∧ i = .int .i64 (j : Int) ∧ NRel w cum X (told (X.take j)) sv wr
set_option maxRecDepth 100000 in
set_option maxHeartbeats 16000000 in
theorem rmake_row (cum : Int) (v : Value) (X : List PD) (w : World) (hc : 0 ≤ cum ∧ cum < 4294967296) (h : LiesD w v X) (hX : X.length ≤ 1000) (hr : isRow cum X) :
    Calls Try.prog 10 #[.int .u32 cum, v] w (Told w cum X) := by
  obtain ⟨a, cap, rfl, hc1, hc2⟩ := h.1.form
  have hpos : 0 < X.length := by
    rcases Nat.eq_zero_or_pos X.length with e | e
    · exact absurd (List.eq_nil_of_length_eq_zero e) hr.1
    · exact e
  have H := Lib.hid h
  have HR := Lib.hid hr.2
  have HC := Lib.hid hc
  have hc0 := hc.1
  have hcm := hc.2
  clear h hr hc
  have hb0 : ((X.length : Int) == 0) = false := beq_eq_false_iff_ne.2 (by omega)
  obtain ⟨w2, hw2⟩ : ∃ w2, w2 = (w.alloc (.cells #[.int .u32 0, .slice none 0 0] 27)).alloc (.cells #[.int .u32 0, .slice none 0 0] 27) := ⟨_, rfl⟩
  have t2 : turned w w2 [] := by rw [hw2]; exact turned_alloc (turned_alloc (turned_refl w []) _) _
  have o1 : obj w2 w.heap.size 27 [.int .u32 0, .slice none 0 0] := by rw [hw2]; exact (obj.new w _ _).alloc _
  have o2 : obj w2 (w.heap.size + 1) 27 [.int .u32 0, .slice none 0 0] := by rw [hw2]; have := obj.new (w.alloc (.cells #[.int .u32 0, .slice none 0 0] 27)) 27 [.int .u32 0, .slice none 0 0]; simpa using this
  have T2 := Lib.hid t2
  have O1 := Lib.hid o1
  have O2 := Lib.hid o2
  have s0 := o2.cell 0 rfl
  have sf := o2.free 0
  clear t2 o1 o2
  go_enter Try.func10, Try.ntmps10
  go_wp2
  rw [← hw2]
  clear hw2
  go_loop [7] (fun i => ∃ j : Nat, j ≤ X.length ∧ i = .int .i64 (j : Int)) (fun i => X.length - (intOf i).toNat)
  case atStart => exact ⟨0, Nat.zero_le _, rfl⟩
  case round =>
    obtain ⟨j, hj, rfl⟩ := hrel
    by_cases hlt : j < X.length
    · obtain ⟨b, off, rfl, hb, c0, c1, c2, c3, c4, c5, c6⟩ := (H.out.none_ T2.out).cells j hlt
      have hq := row_test hlt hX H.out.2 HC.out
      have hk := HR.out j hlt
      obtain ⟨x, hx⟩ : ∃ x, X[j]'hlt = x := ⟨_, rfl⟩
      rw [hx] at c0 c1 c2 c3 c4 c5 c6 hq hk
      have HXJ := Lib.hid hx
      clear hx c1 c2 c3 c4 c5 c6
      have hb1 : (x.t != ((cum + 1) % 4294967296 + (j : Int)) % 4294967296) = false := by
        cases hh : (x.t != ((cum + 1) % 4294967296 + (j : Int)) % 4294967296) with
        | false => rfl
        | true => exact absurd hk (hq.1 hh)
      clear hq hk
      go_wp2
      go_round
      case rel => exact ⟨j + 1, by omega, by go_num⟩
      case measure => simp only [intOf]; omega
    · obtain ⟨b, off, rfl, hb, c0, c1, c2, c3, c4, c5, c6⟩ := (H.out.none_ T2.out).cells (X.length - 1) (by omega)
      rw [← lastT_at X hpos] at c0
      have e1 : ((X.length - 1 : Nat) : Int) = (X.length : Int) - 1 := by omega
      clear c1 c2 c3 c4 c5 c6
      have N0 : NRel w cum X (told (X.take 0)) (.slice none 0 0) (w2.setCell ⟨w.heap.size + 1, 0, none⟩ (.int .u32 (lastT X))) := by
        have hlt := O1.out.lt
        have ts : turned w2 (w2.setCell ⟨w.heap.size + 1, 0, none⟩ (.int .u32 (lastT X))) [w.heap.size + 1] := turned_set (turned_refl w2 [w.heap.size + 1]) (List.mem_singleton.2 rfl) _
        exact ⟨turned_setNew T2.out (by omega) _, O1.out.past ts (by simp), O2.out.set 0 _, World.ownsRow_nil _ _ _ _⟩
      have HN0 := Lib.hid N0
      clear N0
      go_wp2
      go_loopw [8] (fun i wr => NLoop w cum X i wr) (fun i _ => X.length - (intOf i).toNat)
      case atStart => exact ⟨0, _, Nat.zero_le _, rfl, HN0.out⟩
      case round =>
        clear HN0 O1 O2 s0 sf c0 e1
        obtain ⟨j, sv, hj, rfl, hm⟩ := hrel
        have HM := Lib.hid hm
        clear hm
        have hll := told_len (X.take j)
        have hlt' : (X.take j).length ≤ j := List.length_take_le _ _
        by_cases hlt : j < X.length
        · obtain ⟨b', off', e, hb', c0, c1, c2, c3, c4, c5, c6⟩ := (H.out.none_ HM.out.1).cells j hlt
          simp only [Option.some.injEq, Addr.mk.injEq, and_true] at e
          obtain ⟨rfl, rfl⟩ := e
          obtain ⟨x, hx⟩ : ∃ x, X[j]'hlt = x := ⟨_, rfl⟩
          have hst := told_take X j hlt
          rw [hx] at c0 c1 c2 c3 c4 c5 c6 hst
          have HXJ := Lib.hid hx
          clear hx c0 c4 c5 c6
          by_cases hu : x.u = true
          · rw [hu] at c3
            rw [step1, if_pos hu] at hst
            have HST := Lib.hid hst
            clear hu hst
            go_wp2
            go_roundw
            case rel => exact ⟨j + 1, sv, by omega, by go_num, by rw [HST.out]; exact HM.out⟩
            case measure => simp only [intOf]; omega
          · have hu' : x.u = false := by simpa using hu
            rw [hu'] at c3
            rw [step1, if_neg hu] at hst
            have HST := Lib.hid hst
            have hkeys := told_keys (X.take j)
            have HKY := Lib.hid hkeys
            clear hu hu' hst hkeys
            generalize told (X.take j) = S at HM HST HKY hll ⊢
            obtain ⟨sa, sc, rfl, hs1, hs2, hsa⟩ := row_form HM.out.2.2.2
            have HSA := Lib.hid hsa
            clear hsa
            go_wp2
            obtain ⟨wo, rfl⟩ : ∃ wo : World, wo = wr := ⟨_, rfl⟩
            go_loopw [9] (fun i wi => ∃ k : Nat, k ≤ S.length ∧ i = .int .i64 (k : Int) ∧ NRel w cum X S (.slice sa S.length sc) wi ∧ ∀ t (ht : t < S.length), t < k → (S[t]'ht).1 ≠ x.s) (fun i _ => S.length - (intOf i).toNat)
            case atStart => exact ⟨0, Nat.zero_le _, rfl, HM.out, fun t ht h => absurd h (Nat.not_lt_zero t)⟩
            case round =>
              clear HM c1 c2 c3
              obtain ⟨k, hk, rfl, hn, hall⟩ := hrel
              have HN := Lib.hid hn
              have HALL := Lib.hid hall
              clear hn hall
              obtain ⟨b', off', e, hb', c0, c1, c2, c3, c4, c5, c6⟩ := (H.out.none_ HN.out.1).cells j hlt
              simp only [Option.some.injEq, Addr.mk.injEq, and_true] at e
              obtain ⟨rfl, rfl⟩ := e
              rw [HXJ.out] at c1 c2
              clear c0 c3 c4 c5 c6
              have r1 := HN.out.2.2.1.cell 1 rfl
              by_cases hkl : k < S.length
              · obtain ⟨g, rfl⟩ := HSA.out (by omega)
                obtain ⟨y, hy⟩ : ∃ y, S[k]'hkl = y := ⟨_, rfl⟩
                have e0' := HN.out.2.2.2.cellAt (k * 2 + 0) (by omega)
                rw [flat_at cSk_len _ k hkl 0 (by omega), hy] at e0'
                have e0 : wr.cell? ⟨g, k * 2, none⟩ = some (.int .u16 y.1) := e0'
                clear e0'
                have HY := Lib.hid hy
                clear hy
                have hdk : decide (k < S.length) = true := decide_eq_true hkl
                by_cases hs : y.1 = x.s
                · have hne : (y.1 != x.s) = false := by simp [hs]
                  have hne2 : ((k : Int) == (S.length : Int)) = false := beq_eq_false_iff_ne.2 (by omega)
                  have HS := Lib.hid hs
                  clear hs
                  go_wp2
                  go_quiet (fail)
                  have HQ := Lib.hid (HN.out.drewN nq)
                  clear r1 c1 c2 e0 hne
                  generalize wr.drewN nq = wq at HQ ⊢
                  obtain ⟨b', off', e, hb', c0, c1, c2, c3, c4, c5, c6⟩ := (H.out.none_ HQ.out.1).cells j hlt
                  simp only [Option.some.injEq, Addr.mk.injEq, and_true] at e
                  obtain ⟨rfl, rfl⟩ := e
                  rw [HXJ.out] at c1 c2
                  clear c0 c1 c3 c4 c5 c6
                  have r1 := HQ.out.2.2.1.cell 1 rfl
                  have e1' := HQ.out.2.2.2.cellAt (k * 2 + 1) (by omega)
                  rw [flat_at cSk_len _ k hkl 1 (by omega), HY.out] at e1'
                  have e1 : wq.cell? ⟨g, k * 2 + 1, none⟩ = some (.int .u16 y.2) := e1'
                  clear e1'
                  have eput := put1_there HKY.out k hkl (s := x.s) (by rw [HY.out]; exact HS.out) x.n
                  rw [HY.out] at eput
                  have EPUT := Lib.hid eput
                  clear eput
                  by_cases hl : lss 65536 y.2 x.n = true
                  · go_wp2
                    go_quiet ((go_at_call 21; exact Calls.quiet_of_same (calls_flip (less18_16 _ _ _))))
                    rw [hl]
                    have HL := Lib.hid hl
                    have HZ := Lib.hid (HQ.out.drewN nq)
                    clear r1 c2 e1
                    generalize wq.drewN nq = wz at HZ ⊢
                    obtain ⟨wd, hwd⟩ : ∃ wd, wd = wz.drew := ⟨_, rfl⟩
                    have HD : NRel w cum X S (.slice (some ⟨g, 0, none⟩) S.length sc) wd := by rw [hwd]; exact HZ.out.drew
                    obtain ⟨b', off', e, hb', c0, c1, c2, c3, c4, c5, c6⟩ := (H.out.none_ HD.1).cells j hlt
                    simp only [Option.some.injEq, Addr.mk.injEq, and_true] at e
                    obtain ⟨rfl, rfl⟩ := e
                    rw [HXJ.out] at c2
                    clear c0 c1 c3 c4 c5 c6
                    have r1 := HD.2.2.1.cell 1 rfl
                    have e1' := HD.2.2.2.cellAt (k * 2 + 1) (by omega)
                    rw [flat_at cSk_len _ k hkl 1 (by omega), HY.out] at e1'
                    have e1 : wd.cell? ⟨g, k * 2 + 1, none⟩ = some (.int .u16 y.2) := e1'
                    clear e1'
                    have ef := HD.2.2.2.frozenAt (k * 2 + 1)
                    have AG := HZ.out.again (s := x.s) (n := x.n) hkl (by rw [HY.out]; exact HS.out) hwd
                    have HAG := Lib.hid AG
                    have HWD := Lib.hid hwd
                    clear AG hwd HD
                    go_wp2
                    refine region_tail 10 (by kernel_rfl) (by kernel_rfl) wd HWD.out ?_
                    simp only [List.take_succ_cons, List.take_zero, List.drop_succ_cons, List.drop_zero]
                    iterate 10 still_step
                    refine wpStill_nil ?_
                    go_wp2
                    go_roundw
                    case rel =>
                      refine ⟨j + 1, .slice (some ⟨g, 0, none⟩) S.length sc, by omega, by go_num, ?_⟩
                      rw [HST.out, EPUT.out, mx, if_pos HL.out]
                      exact HAG.out
                    case measure => simp only [intOf]; omega
                  · have hl' : lss 65536 y.2 x.n = false := by simpa using hl
                    have HL := Lib.hid hl
                    clear hl
                    go_wp2
                    go_quiet ((go_at_call 21; exact Calls.quiet_of_same (calls_flip (less18_16 _ _ _))))
                    go_wp2
                    go_roundw
                    case rel =>
                      refine ⟨j + 1, .slice (some ⟨g, 0, none⟩) S.length sc, by omega, by go_num, ?_⟩
                      rw [HST.out, EPUT.out, mx, if_neg HL.out, ← HS.out, show (y.1, y.2) = S[k]'hkl from HY.out.symm, List.set_getElem_self]
                      exact HQ.out.drewN _
                    case measure => simp only [intOf]; omega
                · have hne : (y.1 != x.s) = true := by simp [hs]
                  have HS := Lib.hid hs
                  clear hs
                  go_wp2
                  go_quiet (fail)
                  go_wp2
                  go_roundw
                  case rel =>
                    refine ⟨k + 1, by omega, by go_num, HN.out.drewN _, fun t ht h => ?_⟩
                    by_cases e : t = k
                    · subst e; rw [HY.out]; exact HS.out
                    · exact HALL.out t ht (by omega)
                  case measure => simp only [intOf]; omega
              · have hkn : k = S.length := by omega
                subst hkn
                have hdk : decide (S.length < S.length) = false := decide_eq_false (by omega)
                go_wp2
                go_quiet (fail)
                have HQ := Lib.hid (HN.out.drewN nq)
                have heq : ((S.length : Int) == (S.length : Int)) = true := by simp
                clear r1 c1 c2 hdk
                generalize wr.drewN nq = wq at HQ ⊢
                obtain ⟨b', off', e, hb', c0, c1, c2, c3, c4, c5, c6⟩ := (H.out.none_ HQ.out.1).cells j hlt
                simp only [Option.some.injEq, Addr.mk.injEq, and_true] at e
                obtain ⟨rfl, rfl⟩ := e
                rw [HXJ.out] at c1 c2
                clear c0 c3 c4 c5 c6
                have r1 := HQ.out.2.2.1.cell 1 rfl
                obtain ⟨i0, hi0, hz0, hz1, hz2⟩ := info_parts infoSk
                have hsz := HQ.out.1.2.2.2.1
                have q1 := cell_al c1 (.cells #[.int .u16 x.s, .int .u16 x.n] 41)
                have q2 := cell_al c2 (.cells #[.int .u16 x.s, .int .u16 x.n] 41)
                have q3 := cell_al r1 (.cells #[.int .u16 x.s, .int .u16 x.n] 41)
                go_upto_region 18 with (fail)
                go_cut [] from 40 to 114 (fun wc => ∃ g2 cap2, NRel w cum X (S ++ [(x.s, x.n)]) (.slice (some ⟨g2, 0, none⟩) (S.length + 1) cap2) wc)
                case first =>
                  go_region_law (refine step_append_lies (P := Try.prog) _ rfl _ _ 25 rfl w.heap.size 41 i0 (.agg #[.int .u16 0, .int .u16 0]) 2 4 Try.underlying25 hi0 hz0 hz1 hz2 rfl (by decide) _ S.length (flat cSk S) rfl (HQ.out.drew.2.2.2.alloc _) ⟨wq.heap.size, 0, none⟩ 1 1 [.int .u16 x.s, .int .u16 x.n] rfl rfl (fun j u hj => by rw [adr0]; exact (obj.new wq.drew 41 [.int .u16 x.s, .int .u16 x.n]).cell j hj) (by simp [Value.oneCell']) (by decide) (by unfold maxLen; omega) (by omega) (by simp; omega) _ rfl ?_; intro g2 cap2 w3 ho3 hg3 hl3 hlt3; have FR := HQ.out.drew.fresh (s := x.s) (n := x.n) rfl hg3 ho3 (hl3.imp (fun e => Eq.symm e) (fun e => congrArg some e)); have qf := FR.1.free 1; have qc := FR.1.cell 1 rfl; have HFR := Lib.hid FR.2; clear ho3 hg3 hl3 FR)
                  all_goals go_wp2
                  all_goals go_meet
                  all_goals exact ⟨_, _, HFR.out⟩
                case rest =>
                  obtain ⟨g2, cap2, hq⟩ := hcut
                  have HQ2 := Lib.hid hq
                  clear hq r1 c1 c2 q1 q2 q3 heq
                  obtain ⟨b', off', e, hb', c0, c1, c2, c3, c4, c5, c6⟩ := (H.out.none_ HQ2.out.1).cells j hlt
                  simp only [Option.some.injEq, Addr.mk.injEq, and_true] at e
                  obtain ⟨rfl, rfl⟩ := e
                  rw [HXJ.out] at c2
                  clear c0 c1 c3 c4 c5 c6
                  have r1 := HQ2.out.2.2.1.cell 1 rfl
                  have hS' : (S ++ [(x.s, x.n)]).length = S.length + 1 := by simp
                  have hrow := HQ2.out.2.2.2
                  rw [hS'] at hrow
                  have e1' := hrow.cellAt (S.length * 2 + 1) (by omega)
                  rw [flat_at cSk_len _ S.length (by omega) 1 (by omega), List.getElem_append_right (Nat.le_refl _)] at e1'
                  simp only [Nat.sub_self, List.getElem_cons_zero] at e1'
                  have e1 : wc.cell? ⟨g2, S.length * 2 + 1, none⟩ = some (.int .u16 x.n) := e1'
                  have hl := lss_self 65536 x.n
                  have hno : ∀ y, y ∈ S → y.1 ≠ x.s := by
                    intro y hy
                    obtain ⟨t, ht, rfl⟩ := List.getElem_of_mem hy
                    exact HALL.out t ht ht
                  have EPUT := Lib.hid (put1_no (n := x.n) hno)
                  clear hrow e1' hno hS'
                  go_wp2
                  go_quiet ((go_at_call 21; exact Calls.quiet_of_same (calls_flip (less18_16 _ _ _))))
                  rw [hl]
                  go_wp2
                  go_roundw
                  case rel =>
                    refine ⟨j + 1, .slice (some ⟨g2, 0, none⟩) (S.length + 1) cap2, by omega, by go_num, ?_⟩
                    rw [HST.out, EPUT.out]
                    exact HQ2.out.drewN _
                  case measure => simp only [intOf]; omega
        · have hjn : j = X.length := by omega
          subst hjn
          have c0' := HM.out.2.2.1.cell 0 rfl
          have c1' := HM.out.2.2.1.cell 1 rfl
          have n0 := HM.out.2.1.cell 0 rfl
          have n1 := HM.out.2.1.cell 1 rfl
          have f0 := HM.out.2.1.free 0
          have f1 := HM.out.2.1.free 1
          obtain ⟨sa, sc, rfl, _⟩ := row_form HM.out.2.2.2
          have hrow := HM.out.2.2.2
          rw [List.take_length] at hrow c1'
          have HROW := Lib.hid hrow
          have hsep : sa ≠ sa ∨ (Value.slice sa (told X).length sc).ownBlock ≠ some w.heap.size := Or.inr (by have := HM.out.sep.2.1; rw [List.take_length] at this; exact this)
          have HSEP := Lib.hid hsep
          clear hrow hsep
          go_wp2
          refine bodyPost_ret (v := .tuple #[.agg #[.int .u32 (lastT X), .slice sa (told X).length sc], .bool true]) (by simp [results, Try.results10, go_sem, *]) rfl ?_
          have ts : turned wr ((wr.setCell ⟨w.heap.size, 0, none⟩ (.int .u32 (lastT X))).setCell ⟨w.heap.size, 1, none⟩ (.slice sa (told X).length sc)) [w.heap.size] := turned_set (turned_set (turned_refl wr [w.heap.size]) (List.mem_singleton.2 rfl) _) (List.mem_singleton.2 rfl) _
          refine ⟨_, rfl, row_past HROW.out ts (fun g hg e => ?_), turned_setNew (turned_setNew HM.out.1 (Nat.le_refl _) _) (Nat.le_refl _) _⟩
          rw [List.mem_singleton] at e
          subst e
          rcases HSEP.out with h | h
          · exact h rfl
          · exact h hg
end Go.Proofs.Ytdmoknijpapedaa
