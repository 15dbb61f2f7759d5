/- The walk of ForwardRow. No condition. -/
import Derived.Test.YtdmoknijpapedaaFwdMakes
namespace Go.Proofs.Ytdmoknijpapedaa
open Go.ChangeShapes Go.WideShapes Go.RowKit Go.Deep
set_option linter.unusedVariables false
set_option linter.unusedSimpArgs false

/-- The first j elements turned. -/
def mapTo (f : Nat → PD → PD) (j : Nat) (X : List PD) : List PD := X.mapIdx fun i x => if i < j then f i x else x
theorem mapTo_len (f : Nat → PD → PD) (j : Nat) (X : List PD) : (mapTo f j X).length = X.length := by simp [mapTo]
theorem mapTo_zero (f : Nat → PD → PD) (X : List PD) : mapTo f 0 X = X := by
  apply List.ext_getElem
  · simp [mapTo]
  · intro i h1 h2; simp [mapTo]
theorem mapTo_at (f : Nat → PD → PD) (j : Nat) (X : List PD) (i : Nat) (h : i < X.length) : (mapTo f j X)[i]'(by rw [mapTo_len]; exact h) = if i < j then f i (X[i]'h) else X[i]'h := by simp [mapTo]
theorem mapTo_set (f : Nat → PD → PD) (j : Nat) (X : List PD) (h : j < X.length) : (mapTo f j X).set j (f j (X[j]'h)) = mapTo f (j + 1) X := by
  apply List.ext_getElem
  · simp [mapTo]
  · intro i h1 h2
    simp only [mapTo, List.getElem_set, List.getElem_mapIdx]
    by_cases e : j = i
    · subst e; simp
    · rw [if_neg e]
      by_cases hi : i < j
      · rw [if_pos hi, if_pos (by omega)]
      · rw [if_neg hi, if_neg (by omega)]
def seqT (cum : Int) (i : Nat) (x : PD) : PD := { x with t := (cum + 1 + (i : Int)) % 4294967296 }
theorem mapTo_ok {f : Nat → PD → PD} {X : List PD} (j : Nat) (hf : ∀ i x, x.ok → (f i x).ok) (h : ∀ x, x ∈ X → x.ok) : ∀ x, x ∈ mapTo f j X → x.ok := by
  intro x hx
  obtain ⟨i, hi, rfl⟩ := List.getElem_of_mem hx
  have hi' : i < X.length := by rw [mapTo_len] at hi; exact hi
  rw [mapTo_at f j X i hi']
  split
  · exact hf _ _ (h _ (List.getElem_mem hi'))
  · exact h _ (List.getElem_mem hi')
theorem seqT_ok (cum : Int) : ∀ i x, PD.ok x → (seqT cum i x).ok := fun i x h =>
  ⟨show 0 ≤ (cum + 1 + (i : Int)) % 4294967296 by omega, show (cum + 1 + (i : Int)) % 4294967296 < 4294967296 by omega, h.s0, h.s1, h.n0, h.n1⟩
theorem set_ok {X : List PD} (h : ∀ x, x ∈ X → x.ok) (k : Nat) (y : PD) (hy : y.ok) : ∀ x, x ∈ X.set k y → x.ok := by
  intro x hx
  rcases List.mem_or_eq_of_mem_set hx with h1 | h1
  · exact h x h1
  · rw [h1]; exact hy
theorem lies_row {w : World} {base n : Nat} {v : Value} {X : List PD} (h : w.ownsRow base 34 7 v n (flat cPD X)) (hn : n = X.length) (hok : ∀ x, x ∈ X → x.ok) : LiesD w v X := by
  subst hn; exact ⟨Lies.row h, hok⟩

def RLoop (W : World) (cum : Int) (X : List PD) (a : Option Addr) (cap : Nat) (i : Value) (wr : World) : Prop :=
  ∃ j : Nat, j ≤ X.length ∧ i = .int .i64 (j : Int) ∧ wr.ownsRow W.heap.size 34 7 (.slice a X.length cap) X.length (flat cPD (mapTo (seqT cum) j X)) ∧ turned W wr []

set_option maxRecDepth 100000 in
set_option maxHeartbeats 8000000 in
theorem row_good (W : World) (cum at_ by_ : Int) (v : Value) (X : List PD) (hc : 0 ≤ cum ∧ cum < 4294967296) (ha : 0 ≤ at_ ∧ at_ < 256) (hb : 0 ≤ by_ ∧ by_ < 4294967296) (h : LiesD W v X) (hX : X.length ≤ 200) :
    Calls Try.prog 7 #[.int .u32 cum, v, .int .u8 at_, .int .u32 by_] W fun e w' => e = .returned (.bool true) ∧ Below W.heap.size W w' := by
  obtain ⟨hc0, hcm⟩ := hc
  obtain ⟨ha0, ham⟩ := ha
  obtain ⟨hb0, hbm⟩ := hb
  obtain ⟨a, cap, rfl, hc1, hc2⟩ := h.1.form
  have H := Lib.hid h
  obtain ⟨i0, hi0, hz0, hz1, hz2⟩ := info_parts infoD
  clear h
  go_enter Try.func7, Try.ntmps7
  go_wp2_with (first | (at_builtin; refine wpList_append_lies' _ rfl _ _ 23 rfl W.heap.size 34 i0 _ 7 40 Try.underlying23 hi0 hz0 hz1 hz2 rfl (by decide) _ 0 [] rfl (World.ownsRow_lit W #[] 0 (Nat.le_refl _) (by decide) rfl) _ X.length (flat cPD X) rfl (H.out.1.none_ (turned_alloc (turned_refl W []) _)) (flatPD_one X) (by unfold maxLen; omega) (by omega) (by simp) ?_) | go_in)
  intro v1 w1 ho hg hl
  have t1 : turned W w1 [] := turned_new (turned_alloc (turned_refl W []) _) hg (fun k e => by simp [Value.ownBlock] at e; omega)
  obtain ⟨a1, cap1, rfl, hd1, hd2, hsa⟩ := row_form ho
  have HO := Lib.hid ho
  have T1 := Lib.hid t1
  have HSA := Lib.hid hsa
  have hd2' : cap1 ≤ 9223372036854775807 := hd2
  clear ho hg hl t1 hsa hd2
  go_wp2
  go_loopw [10] (fun i wr => RLoop W cum X a1 cap1 i wr) (fun i _ => X.length - (intOf i).toNat)
  case atStart => exact ⟨0, Nat.zero_le _, rfl, by rw [mapTo_zero]; exact HO.out, T1.out⟩
  case round =>
    clear HO T1
    obtain ⟨j, hj, rfl, ho, ht⟩ := hrel
    have HO := Lib.hid ho
    have HT := Lib.hid ht
    clear ho ht
    by_cases hlt : j < X.length
    · obtain ⟨g, rfl⟩ := HSA.out (by omega)
      have e0' := HO.out.cellAt (j * 7 + 0) (by omega)
      rw [flat_at cPD_len _ j (by rw [mapTo_len]; exact hlt) 0 (by omega)] at e0'
      have e0 : wr.cell? ⟨g, j * 7, none⟩ = some (.int .u32 ((mapTo (seqT cum) j X)[j]'(by rw [mapTo_len]; exact hlt)).t) := e0'
      have ef := HO.out.frozenAt (j * 7)
      clear e0'
      go_wp2
      go_roundw
      case rel =>
        refine ⟨j + 1, by omega, by go_num, ?_, turned_setNew HT.out (HO.out.lt g rfl).1 _⟩
        have := (HO.out.stored (j * 7 + 0) (.int .u32 ((cum + 1 + (j : Int)) % 4294967296))).1
        rw [flat_set cPD_len _ j (by rw [mapTo_len]; exact hlt) 0 (by omega) _ (seqT cum j (X[j]'hlt)) (by
          rw [mapTo_at _ _ _ _ hlt, if_neg (Nat.lt_irrefl _)]
          rfl), mapTo_set] at this
        exact this
      case measure => simp only [intOf]; omega
    · have hjn : j = X.length := by omega
      subst hjn
      obtain ⟨c2, S2, b2, hb2, hb2', hm2⟩ := make_out cum (mapTo (seqT cum) X.length X) ⟨hc0, hcm⟩ (by rw [mapTo_len]; omega)
      have hrow : isRow cum (mapTo (seqT cum) X.length X) ↔ 0 < X.length := by
        constructor
        · intro h
          rcases Nat.eq_zero_or_pos X.length with e | e
          · have : mapTo (seqT cum) X.length X = [] := List.eq_nil_of_length_eq_zero (by rw [mapTo_len]; exact e)
            exact absurd this h.1
          · exact e
        · intro h
          refine ⟨fun e => by have := mapTo_len (seqT cum) X.length X; rw [e] at this; simp at this; omega, fun i hi => ?_⟩
          have hi' : i < X.length := by rw [mapTo_len] at hi; exact hi
          rw [mapTo_at _ _ _ _ hi', if_pos hi']
          rfl
      have hbd : b2 = decide ((0 : Int) < (X.length : Int)) := by
        cases b2 with
        | true => have := hrow.1 (hb2 rfl).1; simp; omega
        | false =>
          rcases Nat.eq_zero_or_pos X.length with e | e
          · rw [e]; rfl
          · exact absurd (hrow.2 e) (hb2' rfl).1
      have LY : LiesD wr (.slice a1 X.length cap1) (mapTo (seqT cum) X.length X) := lies_row HO.out (mapTo_len _ _ _).symm (mapTo_ok _ (seqT_ok cum) H.out.2)
      have HM := Lib.hid (hm2 wr _ LY)
      have HBD := Lib.hid hbd
      have HROW := Lib.hid hrow
      clear hb2 hb2' hm2 LY hbd hrow
      go_wp2_with fail
      refine HM.out.mono ?_
      rintro e w2 ⟨a2, cap2, rfl, l2, t2⟩
      have tb := turned_alloc t2 (.cells #[.int .u32 c2, .slice a2 S2.length cap2] 27)
      have HT2 := Lib.hid (turned_trans HT.out tb)
      have HO2 := Lib.hid (row_past HO.out tb (by simp))
      clear l2 t2 tb
      by_cases hz : X.length = 0
      · have hz' : ((X.length : Int) == 0) = true := by simp [hz]
        obtain rfl : b2 = false := by rw [HBD.out, hz]; rfl
        have hd : decide (0 < X.length) = false := by rw [hz]; rfl
        go_wp2_with (go_at_call 8; refine (works_any _).mono ?_; rintro e w9 ⟨rfl, g9⟩)
        go_ret
        exact ⟨rfl, turned_below (turned_trans HT2.out g9)⟩
      · have hz' : ((X.length : Int) == 0) = false := beq_eq_false_iff_ne.2 (by omega)
        obtain rfl : b2 = true := by rw [HBD.out]; exact decide_eq_true (by omega)
        have hd : decide (0 < X.length) = true := decide_eq_true (by omega)
        obtain ⟨g, rfl⟩ := HSA.out (by omega)
        obtain ⟨k, hk⟩ : ∃ k : Nat, at_ % (X.length : Int) = (k : Int) := ⟨(at_ % (X.length : Int)).toNat, by have := Int.emod_nonneg at_ (show (X.length : Int) ≠ 0 by omega); omega⟩
        have hkl : k < X.length := by have := Int.emod_lt_of_pos at_ (show (0 : Int) < (X.length : Int) by omega); omega
        have hk' : Int.tmod at_ (X.length : Int) = (k : Int) := by rw [Int.tmod_eq_emod_of_nonneg ha0]; exact hk
        have hat : IntKind.i64.wrap at_ = at_ := IntWalk.i64_in _ (by omega)
        have hkY : k < (mapTo (seqT cum) X.length X).length := by rw [mapTo_len]; exact hkl
        have hyt : ((mapTo (seqT cum) X.length X)[k]'hkY).t = (cum + 1 + (k : Int)) % 4294967296 := by rw [mapTo_at _ _ _ _ hkl, if_pos hkl]; rfl
        have hyok := mapTo_ok X.length (seqT_ok cum) H.out.2 _ (List.getElem_mem hkY)
        have hrowY := HROW.out.2 (by omega)
        have hokY := mapTo_ok X.length (seqT_ok cum) H.out.2
        have hlenY := mapTo_len (seqT cum) X.length X
        generalize mapTo (seqT cum) X.length X = Y at HO2 hkY hyt hyok hrowY hokY hlenY ⊢
        obtain ⟨y, hy⟩ : ∃ y, Y[k]'hkY = y := ⟨_, rfl⟩
        rw [hy] at hyt hyok
        obtain ⟨wd, hwd⟩ : ∃ wd, wd = (w2.alloc (.cells #[.int .u32 c2, .slice a2 S2.length cap2] 27)).drew := ⟨_, rfl⟩
        have hOd : wd.ownsRow W.heap.size 34 7 (.slice (some ⟨g, 0, none⟩) X.length cap1) X.length (flat cPD Y) := by rw [hwd]; exact HO2.out
        have e0' := hOd.cellAt (k * 7 + 0) (by omega)
        rw [flat_at cPD_len _ k hkY 0 (by omega), hy] at e0'
        have e0 : wd.cell? ⟨g, k * 7, none⟩ = some (.int .u32 y.t) := e0'
        have ef := hOd.frozenAt (k * 7)
        obtain ⟨z, hzd⟩ : ∃ z : PD, z = { y with t := (y.t + by_) % 4294967296 } := ⟨_, rfl⟩
        have hOz := (hOd.stored (k * 7 + 0) (.int .u32 ((y.t + by_) % 4294967296))).1
        rw [flat_set cPD_len Y k hkY 0 (by omega) _ z (by rw [hy, hzd]; rfl)] at hOz
        have hgb := (hOd.lt g rfl).1
        have Tz := Lib.hid (show turned W (wd.setCell ⟨g, k * 7, none⟩ (.int .u32 ((y.t + by_) % 4294967296))) [] by rw [hwd]; exact turned_setNew (turned_drew' HT2.out) hgb _)
        have hzok : z.ok := by rw [hzd]; exact ⟨show 0 ≤ (y.t + by_) % 4294967296 by omega, show (y.t + by_) % 4294967296 < 4294967296 by omega, hyok.s0, hyok.s1, hyok.n0, hyok.n1⟩
        have LZ : LiesD (wd.setCell ⟨g, k * 7, none⟩ (.int .u32 ((y.t + by_) % 4294967296))) (.slice (some ⟨g, 0, none⟩) X.length cap1) (Y.set k z) := lies_row hOz (by rw [List.length_set, hlenY]) (set_ok hokY k z hzok)
        obtain ⟨c3, S3, b3, hb3, hb3', hm3⟩ := make_out cum (Y.set k z) ⟨hc0, hcm⟩ (by rw [List.length_set, hlenY]; omega)
        have hrowZ : isRow cum (Y.set k z) ↔ by_ = 0 := by
          constructor
          · intro h
            have := h.2 k (by rw [List.length_set]; exact hkY)
            rw [List.getElem_set_self, hzd] at this
            simp only at this
            omega
          · intro h
            refine ⟨fun e => by have : (Y.set k z).length = 0 := by rw [e]; rfl
                                rw [List.length_set] at this; omega, fun i hi => ?_⟩
            by_cases e : k = i
            · subst e
              rw [List.getElem_set_self, hzd, h]
              simp only
              omega
            · rw [List.getElem_set_ne e]
              exact hrowY.2 i (by rw [List.length_set] at hi; exact hi)
        have hb3d : b3 = (by_ == 0) := by
          cases b3 with
          | true => have := hrowZ.1 (hb3 rfl).1; simp [this]
          | false =>
            have : ¬ by_ = 0 := fun h => (hb3' rfl).1 (hrowZ.2 h)
            simpa using this
        have HM3 := Lib.hid (hm3 _ _ LZ)
        have HB3 := Lib.hid hb3d
        have HB3F := Lib.hid hb3'
        have HWD := Lib.hid hwd
        clear e0' hOd hOz LZ hm3 hrowZ hb3 hb3' hb3d hwd hzok hzd hyok hrowY hokY hyt hy HM
        go_wp2
        refine region_tail 19 (by kernel_rfl) (by kernel_rfl) wd HWD.out ?_
        simp only [List.take_succ_cons, List.take_zero, List.drop_succ_cons, List.drop_zero]
        iterate 19 still_step
        refine wpStill_nil ?_
        go_wp2_with fail
        refine HM3.out.mono ?_
        rintro e w3 ⟨a3, cap3, rfl, l3, t3⟩
        have tb := turned_alloc t3 (.cells #[.int .u32 c3, .slice a3 S3.length cap3] 27)
        have T3 := Lib.hid (turned_trans Tz.out tb)
        have L3 := Lib.hid (l3.none_ (turned_alloc (turned_refl w3 []) (.cells #[.int .u32 c3, .slice a3 S3.length cap3] 27)))
        clear l3 t3 tb e0 ef
        by_cases hby : by_ = 0
        · have hbb : (by_ == 0) = true := by simp [hby]
          obtain rfl : b3 = true := by rw [HB3.out, hbb]
          go_wp2_with (go_at_call 8; refine (works_any _).mono ?_; rintro e w9 ⟨rfl, g9⟩)
          go_ret
          exact ⟨rfl, turned_below (turned_trans T3.out g9)⟩
        · have hbb : (by_ == 0) = false := by simpa using hby
          obtain rfl : b3 = false := by rw [HB3.out, hbb]
          obtain ⟨_, rfl, rfl⟩ := HB3F.out rfl
          simp only [List.length_nil] at L3 T3 ⊢
          go_wp2_with fail
          refine (same_forward 0 0 _ _ [] [] _ L3.out (Lies.nil _ _)).mono ?_
          rintro e w4 ⟨rfl, g4⟩
          rw [show (decide ((0 : Int) = 0) && decide (([] : List (Int × Int)) = [])) = true by simp]
          have T4 := Lib.hid (turned_trans T3.out (turned_none (L := []) g4))
          clear g4
          go_wp2_with (go_at_call 8; refine (works_any _).mono ?_; rintro e w9 ⟨rfl, g9⟩)
          go_ret
          exact ⟨rfl, turned_below (turned_trans T4.out g9)⟩
set_option maxHeartbeats 1000000 in
theorem forwardRow.walk (W : World) (cum : Int) (hw : (Lit.int .u32 cum).wf = true) (v : Value) (X : List PD) (h : LiesD W v X) (at_ : Int) (ha : (Lit.int .u8 at_).wf = true) (by_ : Int) (hb : (Lit.int .u32 by_).wf = true) :
    Calls Try.prog 7 #[.int .u32 cum, v, .int .u8 at_, .int .u32 by_] W fun e w' => e = .returned (.bool true) ∧ Below W.heap.size W w' := by
  by_cases hn : X.length ≤ 200
  · exact row_good W cum at_ by_ v X (wf_u32_range hw) (wf_u8_range ha) (wf_u32_range hb) h hn
  · obtain ⟨a, cap, rfl, hc1, hc2⟩ := h.1.form
    clear h
    have h2 : 200 < X.length := by omega
    go_enter Try.func7, Try.ntmps7
    go_wp2_with (go_at_call 8; refine (works_any _).mono ?_; rintro e w9 ⟨rfl, g9⟩)
    go_ret
    exact ⟨rfl, turned_below g9⟩
end Go.Proofs.Ytdmoknijpapedaa
