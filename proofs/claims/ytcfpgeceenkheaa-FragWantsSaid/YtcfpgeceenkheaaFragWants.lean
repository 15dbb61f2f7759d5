/- The walk of FragWants. No condition. -/
import Derived.Test.YtcfpgeceenkheaaFragParts
namespace Go.Proofs.Ytcfpgeceenkheaa
open Go.ChangeShapes Go.WideShapes Go.RowKit Go.Deep
set_option linter.unusedVariables false
set_option linter.unusedSimpArgs false

theorem flatten_take_le {α : Type} (L : List (List α)) (k : Nat) : (L.take k).flatten.length ≤ L.flatten.length := take_flat_le L k
theorem flatten_drop_le {α : Type} (L : List (List α)) (k : Nat) : (L.drop k).flatten.length ≤ L.flatten.length := by
  have : L.flatten = (L.take k).flatten ++ (L.drop k).flatten := by rw [← List.flatten_append, List.take_append_drop]
  rw [this, List.length_append]
  omega
theorem putB {w : World} {g k : Nat} {x : PD} {a : Option Addr} {n cap : Nat} {B : List Int} (hB : LiesB w (.slice a n cap) B) (hB2 : 0 < B.length → ∀ p, a = some p → p.block ≠ g) :
    LiesB (((((((w.setCell ⟨g, k * 7, none⟩ (.int .u32 x.t)).setCell ⟨g, k * 7 + 1, none⟩ (.int .u16 x.s)).setCell ⟨g, k * 7 + 2, none⟩ (.int .u16 x.n)).setCell ⟨g, k * 7 + 3, none⟩ (.bool x.u)).setCell ⟨g, k * 7 + 4, none⟩ (.bool x.f)).setCell ⟨g, k * 7 + 5, none⟩ (.bool x.l)).setCell ⟨g, k * 7 + 6, none⟩ (.slice x.ba x.bn x.bc)) (.slice a n cap) B :=
  ((((((hB.set hB2 _).set hB2 _).set hB2 _).set hB2 _).set hB2 _).set hB2 _).set hB2 _
theorem turned_put {a w : World} {g : Nat} {L : List Nat} (h : turned a w L) (hg : a.heap.size ≤ g) (k : Nat) (x : PD) :
    turned a (((((((w.setCell ⟨g, k * 7, none⟩ (.int .u32 x.t)).setCell ⟨g, k * 7 + 1, none⟩ (.int .u16 x.s)).setCell ⟨g, k * 7 + 2, none⟩ (.int .u16 x.n)).setCell ⟨g, k * 7 + 3, none⟩ (.bool x.u)).setCell ⟨g, k * 7 + 4, none⟩ (.bool x.f)).setCell ⟨g, k * 7 + 5, none⟩ (.bool x.l)).setCell ⟨g, k * 7 + 6, none⟩ (.slice x.ba x.bn x.bc)) L :=
  turned_setNew (turned_setNew (turned_setNew (turned_setNew (turned_setNew (turned_setNew (turned_setNew h hg _) hg _) hg _) hg _) hg _) hg _) hg _
set_option maxRecDepth 100000 in
set_option maxHeartbeats 8000000 in
theorem wants_long (W : World) (s : Int) (o : Bool) (bv : Value) (B : List Int) (most at_ ssn : Int) (hB : LiesB W bv B) (hmb : -9223372036854775808 ≤ most ∧ most ≤ 9223372036854775807) (h : isLong B.length most ∨ (¬ isLong B.length most ∧ 65536 < B.length)) :
    Calls Try.prog 7 #[.agg #[.int .u16 s, .bool o, bv], .int .i64 most, .agg #[.int .u16 at_, .int .u16 ssn]] W fun e w' => e = .returned (.bool true) ∧ Below W.heap.size W w' := by
  obtain ⟨a, cap, rfl, hc1, hc2⟩ := hB.1.form
  have OB := Lib.hid ((msgBox W s o (.slice a B.length cap)).alloc (.cells #[.int .u16 at_, .int .u16 ssn] 50))
  have TB := Lib.hid (turned_alloc (turned_alloc (turned_refl W []) (.cells #[.int .u16 s, .bool o, .slice a B.length cap] 25)) (.cells #[.int .u16 at_, .int .u16 ssn] 50))
  have HB := Lib.hid (hB.none_ TB.out)
  clear hB
  go_enter Try.func7, Try.ntmps7
  go_wp2_with fail
  generalize ((W.alloc (.cells #[.int .u16 s, .bool o, .slice a B.length cap] 25)).alloc (.cells #[.int .u16 at_, .int .u16 ssn] 50)) = w1 at OB TB HB ⊢
  rcases h with h | ⟨h, h'⟩
  · refine (long_yes s o _ B most w1 HB.out hmb h).mono ?_
    rintro e w2 ⟨rfl, t2⟩
    have T2 := Lib.hid (turned_trans TB.out t2)
    clear t2
    go_wp2_with fail
    refine (works17 _).mono ?_
    rintro e w7 ⟨rfl, t7⟩
    go_wp2
    go_ret
    exact ⟨rfl, turned_below (turned_trans T2.out t7)⟩
  · refine (long_no s o _ B most w1 HB.out hmb h).mono ?_
    rintro e w2 ⟨rfl, t2⟩
    have m2 := (OB.out.past t2 (by simp)).cell 2 rfl
    have T2 := Lib.hid (turned_trans TB.out t2)
    clear t2
    have d0 : decide ((65536 : Int) < (B.length : Int)) = true := decide_eq_true (by omega)
    go_wp2_with fail
    refine (works17 _).mono ?_
    rintro e w7 ⟨rfl, t7⟩
    go_wp2
    go_ret
    exact ⟨rfl, turned_below (turned_trans T2.out t7)⟩
set_option maxRecDepth 100000 in
set_option maxHeartbeats 8000000 in
theorem wants_none (W : World) (s : Int) (o : Bool) (bv : Value) (B : List Int) (most at_ ssn : Int) (hB : LiesB W bv B) (hmb : -9223372036854775808 ≤ most ∧ most ≤ 9223372036854775807) (h : most < 1 ∨ (1 ≤ most ∧ B.length = 0)) (hl : ¬ isLong B.length most) (hb : B.length ≤ 65536) :
    Calls Try.prog 7 #[.agg #[.int .u16 s, .bool o, bv], .int .i64 most, .agg #[.int .u16 at_, .int .u16 ssn]] W fun e w' => e = .returned (.bool true) ∧ Below W.heap.size W w' := by
  obtain ⟨a, cap, rfl, hc1, hc2⟩ := hB.1.form
  have OB := Lib.hid ((msgBox W s o (.slice a B.length cap)).alloc (.cells #[.int .u16 at_, .int .u16 ssn] 50))
  have TB := Lib.hid (turned_alloc (turned_alloc (turned_refl W []) (.cells #[.int .u16 s, .bool o, .slice a B.length cap] 25)) (.cells #[.int .u16 at_, .int .u16 ssn] 50))
  have HB := Lib.hid (hB.none_ TB.out)
  have HL := Lib.hid hl
  have H := Lib.hid h
  have HC := Lib.hid (fun w => fcut_none s o 5 (.slice a B.length cap) B most w)
  have d0 : decide ((65536 : Int) < (B.length : Int)) = false := decide_eq_false (by omega)
  clear hB hl h
  go_enter Try.func7, Try.ntmps7
  go_wp2_with fail
  generalize ((W.alloc (.cells #[.int .u16 s, .bool o, .slice a B.length cap] 25)).alloc (.cells #[.int .u16 at_, .int .u16 ssn] 50)) = w1 at OB TB HB ⊢
  refine (long_no s o _ B most w1 HB.out hmb HL.out).mono ?_
  rintro e w2 ⟨rfl, t2⟩
  have O2 := Lib.hid (OB.out.past t2 (by simp))
  have B2 := Lib.hid (HB.out.none_ t2)
  have m0 := O2.out.cell 0 rfl
  have m1 := O2.out.cell 1 rfl
  have m2 := O2.out.cell 2 rfl
  have T2 := Lib.hid (turned_trans TB.out t2)
  clear t2
  go_wp2_with fail
  refine (HC.out w2 B2.out (H.out.elim .inl (fun h => .inr ⟨h.1, .inl h.2⟩))).mono ?_
  rintro e w4 ⟨rfl, t4⟩
  unfold noCut
  obtain ⟨c, hc, hc2⟩ : ∃ c : Int, (if most < 1 then 1 else 5) = c ∧ (c != 0) = true := by
    by_cases h : most < 1
    · exact ⟨1, if_pos h, rfl⟩
    · exact ⟨5, if_neg h, rfl⟩
  rw [hc]
  have T4 := Lib.hid (turned_trans T2.out t4)
  clear t4 hc m0 m1 m2
  go_wp2_with fail
  refine (works17 _).mono ?_
  rintro e w7 ⟨rfl, t7⟩
  go_wp2
  go_ret
  exact ⟨rfl, turned_below (turned_trans T4.out t7)⟩
set_option maxRecDepth 100000 in
set_option maxHeartbeats 8000000 in
theorem wants_one (W : World) (s : Int) (o : Bool) (bv : Value) (B : List Int) (most : Nat) (at_ ssn : Int) (hB : LiesB W bv B) (hs : 0 ≤ s ∧ s < 65536) (ha : 0 ≤ at_ ∧ at_ < 65536) (hn : 0 ≤ ssn ∧ ssn < 65536) (hm1 : 1 ≤ most) (hm2 : most ≤ 9223372036854775807) (h0 : 1 ≤ B.length) (hb : B.length ≤ 65536) (hl : ¬ isLong B.length (most : Int)) (h1 : nP B.length most < 2) :
    Calls Try.prog 7 #[.agg #[.int .u16 s, .bool o, bv], .int .i64 (most : Int), .agg #[.int .u16 at_, .int .u16 ssn]] W fun e w' => e = .returned (.bool true) ∧ Below W.heap.size W w' := by
  obtain ⟨a, cap, rfl, hc1, hc2⟩ := hB.1.form
  have OB := Lib.hid ((msgBox W s o (.slice a B.length cap)).alloc (.cells #[.int .u16 at_, .int .u16 ssn] 50))
  have TB := Lib.hid (turned_alloc (turned_alloc (turned_refl W []) (.cells #[.int .u16 s, .bool o, .slice a B.length cap] 25)) (.cells #[.int .u16 at_, .int .u16 ssn] 50))
  have HB := Lib.hid (hB.none_ TB.out)
  have HL := Lib.hid hl
  have d0 : decide ((65536 : Int) < (B.length : Int)) = false := decide_eq_false (by omega)
  clear hB hl
  go_enter Try.func7, Try.ntmps7
  go_wp2_with fail
  generalize ((W.alloc (.cells #[.int .u16 s, .bool o, .slice a B.length cap] 25)).alloc (.cells #[.int .u16 at_, .int .u16 ssn] 50)) = w1 at OB TB HB ⊢
  refine (long_no s o _ B most w1 HB.out (by omega) HL.out).mono ?_
  rintro e w3 ⟨rfl, t3⟩
  have O3 := Lib.hid (OB.out.past t3 (by simp))
  have B3 := Lib.hid (HB.out.none_ t3)
  have m0 := O3.out.cell 0 rfl
  have m1 := O3.out.cell 1 rfl
  have m2 := O3.out.cell 2 rfl
  have T3 := Lib.hid (turned_trans TB.out t3)
  clear t3
  go_wp2_with fail
  refine (fcut_use s o 5 _ B most w3 B3.out h0 (by omega) hm1 hm2 hs (by omega)).mono ?_
  rintro e w4 ⟨g, gc, X, rfl, hgc, hgc2, hmade, hlies, hsh, hX, hwh, hbn, t4⟩
  have hq0 := nP_pos B.length most
  have hq2 := nP_le (most := most) h0
  have hqg := nP_ge h0 hm1
  obtain ⟨q, hq⟩ : ∃ q, nP B.length most = q := ⟨_, rfl⟩
  rw [hq] at h1 ⊢
  have d1 : decide ((q : Int) < 2) = true := decide_eq_true (by omega)
  have T4 := Lib.hid (turned_trans T3.out t4)
  clear hmade hlies hsh hX hwh hbn t4 m0 m1 m2 hq h1
  go_wp2_with fail
  refine (works17 _).mono ?_
  rintro e w7 ⟨rfl, t7⟩
  go_wp2
  go_ret
  exact ⟨rfl, turned_below (turned_trans T4.out t7)⟩
set_option maxRecDepth 100000 in
set_option maxHeartbeats 16000000 in
theorem wants_good (W : World) (s : Int) (o : Bool) (bv : Value) (B : List Int) (most : Nat) (at_ ssn : Int) (hB : LiesB W bv B) (hs : 0 ≤ s ∧ s < 65536) (ha : 0 ≤ at_ ∧ at_ < 65536) (hn : 0 ≤ ssn ∧ ssn < 65536) (hm1 : 1 ≤ most) (hm2 : most ≤ 9223372036854775807) (h0 : 1 ≤ B.length) (hb : B.length ≤ 65536) (hl : ¬ isLong B.length (most : Int)) (h2 : 2 ≤ nP B.length most) :
    Calls Try.prog 7 #[.agg #[.int .u16 s, .bool o, bv], .int .i64 (most : Int), .agg #[.int .u16 at_, .int .u16 ssn]] W fun e w' => e = .returned (.bool true) ∧ Below W.heap.size W w' := by
  obtain ⟨a, cap, rfl, hc1, hc2⟩ := hB.1.form
  have OB := Lib.hid ((msgBox W s o (.slice a B.length cap)).alloc (.cells #[.int .u16 at_, .int .u16 ssn] 50))
  have TB := Lib.hid (turned_alloc (turned_alloc (turned_refl W []) (.cells #[.int .u16 s, .bool o, .slice a B.length cap] 25)) (.cells #[.int .u16 at_, .int .u16 ssn] 50))
  have HB := Lib.hid (hB.none_ TB.out)
  obtain ⟨ha0, ha1⟩ := ha
  have HL := Lib.hid hl
  have d0 : decide ((65536 : Int) < (B.length : Int)) = false := decide_eq_false (by omega)
  obtain ⟨i0, hi0, hz0, hz1, hz2⟩ := info_parts infoPD
  clear hB hl
  go_enter Try.func7, Try.ntmps7
  go_wp2_with fail
  generalize ((W.alloc (.cells #[.int .u16 s, .bool o, .slice a B.length cap] 25)).alloc (.cells #[.int .u16 at_, .int .u16 ssn] 50)) = w1 at OB TB HB ⊢
  refine (long_no s o _ B most w1 HB.out (by omega) HL.out).mono ?_
  rintro e w3 ⟨rfl, t3⟩
  have O3 := Lib.hid (OB.out.past t3 (by simp))
  have B3 := Lib.hid (HB.out.none_ t3)
  have m0 := O3.out.cell 0 rfl
  have m1 := O3.out.cell 1 rfl
  have m2 := O3.out.cell 2 rfl
  have T3 := Lib.hid (turned_trans TB.out t3)
  clear t3
  go_wp2_with fail
  refine (fcut_use s o 5 _ B most w3 B3.out h0 (by omega) hm1 hm2 hs (by omega)).mono ?_
  rintro e w4 ⟨g, gc, X, rfl, hgc, hgc2, hmade, hlies, hsh, hX, hwh, hbn, t4⟩
  have hq0 := nP_pos B.length most
  have hq2 := nP_le (most := most) h0
  have hqg := nP_ge h0 hm1
  obtain ⟨q, hq⟩ : ∃ q, nP B.length most = q := ⟨_, rfl⟩
  rw [hq] at h2 hgc hmade hlies hX hq0 hq2 hqg ⊢
  clear hq
  obtain ⟨own, hown, hown2⟩ : ∃ own : Int, (bif o then 5 else 0) = own ∧ 0 ≤ own ∧ own < 65536 := ⟨_, rfl, by cases o <;> decide⟩
  rw [hown] at hsh
  clear hown
  obtain ⟨r, hr⟩ : ∃ r, q = r + 1 := ⟨q - 1, by omega⟩
  have d1 : decide ((q : Int) < 2) = false := decide_eq_false (by omega)
  have d2 : (q : Int) - 1 = (r : Int) := by omega
  have d3 : q - 1 = r := by omega
  have d4 : ¬ gc = 1 := by omega
  have d5 : (1 : Int) ≤ (q : Int) := by omega
  have d6 : (r : Int) ≤ (gc : Int) := by omega
  have d7 : 1 ≤ r := by omega
  have d8 : r < q := by omega
  have hbt := bits_flat hqg
  have hBl : ((List.range q).map (bit B most)).length = q := by simp
  have HL1 := Lib.hid (show LiesF w4 (.slice (some ⟨g, 7, none⟩) r (gc - 1)) ((X.drop 1).take r) ((((List.range q).map (bit B most)).drop 1).take r) from liesF_sub hlies 1 r (gc - 1) (by omega) (by omega) (by omega))
  have HL2 := Lib.hid (show LiesF w4 (.slice (some ⟨g, 0, none⟩) r gc) ((X.drop 0).take r) ((((List.range q).map (bit B most)).drop 0).take r) from liesF_sub hlies 0 r gc (by omega) (by omega) (by omega))
  have HN1 := Lib.hid (not_whole_drop hsh r (by omega) (by omega))
  have HN2 := Lib.hid (not_whole_take hsh r (by omega) (by omega))
  have HF1 := Lib.hid (show ((((List.range q).map (bit B most)).drop 1).take r).flatten.length ≤ 1048576 from Nat.le_trans (flatten_take_le _ _) (Nat.le_trans (flatten_drop_le _ _) (by rw [hbt]; omega)))
  have HF2 := Lib.hid (show ((((List.range q).map (bit B most)).drop 0).take r).flatten.length ≤ 1048576 from Nat.le_trans (flatten_take_le _ _) (Nat.le_trans (flatten_drop_le _ _) (by rw [hbt]; omega)))
  have HX1 := Lib.hid (show ((X.drop 1).take r).length ≤ 100000 by simp; omega)
  have HX2 := Lib.hid (show ((X.drop 0).take r).length ≤ 100000 by simp; omega)
  have HBT := Lib.hid (show ((List.range q).map (bit B most)).flatten.length ≤ 65536 by rw [hbt]; exact hb)
  have HBL := Lib.hid hBl
  have HEACH := Lib.hid (show ∀ i (hi : i < ((List.range q).map (bit B most)).length), (((List.range q).map (bit B most))[i]'hi).length ≤ 65536 from fun i hi => by rw [bits_at, bit_len]; unfold pieceLen; omega)
  have HSH := Lib.hid hsh
  have HX := Lib.hid hX
  have HWH := Lib.hid hwh
  have HLI := Lib.hid hlies
  have HR0 := Lib.hid (RowF.made hmade hlies)
  have O4 := Lib.hid (O3.out.past t4 (by simp))
  have T4 := Lib.hid (turned_trans T3.out t4)
  clear hmade hsh hX hwh hbn t4 m0 m1 m2 hbt hBl hlies hr
  generalize ((List.range q).map (bit B most)) = Bs at *
  go_wp2_with fail
  refine (fjoin_no _ _ _ _ HL1.out HX1.out HF1.out HN1.out).mono ?_
  rintro e w5 ⟨rfl, t5⟩
  unfold noMsg
  have tb := turned_trans t5 (turned_alloc (turned_refl w5 []) (.cells #[.int .u16 0, .bool false, .slice none 0 0] 25))
  have HL5 := Lib.hid (HL2.out.none_ tb)
  have HLI5 := Lib.hid (HLI.out.none_ tb)
  have HR5 := Lib.hid (HR0.out.none_ tb)
  have O5 := Lib.hid (O4.out.past tb (by simp))
  have T5 := Lib.hid (turned_trans T4.out tb)
  clear t5 tb HL1 HL2 HX1 HF1 HN1 HR0 HLI
  go_wp2_with fail
  generalize (w5.alloc (.cells #[.int .u16 0, .bool false, .slice none 0 0] 25)) = w6 at HL5 HLI5 HR5 O5 T5 ⊢
  refine (fjoin_no _ _ _ _ HL5.out HX2.out HF2.out HN2.out).mono ?_
  rintro e w7 ⟨rfl, t7⟩
  unfold noMsg
  have tb := turned_trans t7 (turned_alloc (turned_refl w7 []) (.cells #[.int .u16 0, .bool false, .slice none 0 0] 25))
  have HLI7 := Lib.hid (HLI5.out.none_ tb)
  have HR7 := Lib.hid (HR5.out.none_ tb)
  have O7 := Lib.hid (O5.out.past tb (by simp))
  have T7 := Lib.hid (turned_trans T5.out tb)
  clear t7 tb HL5 HX2 HF2 HN2 HR5 HLI5
  have hlr : Lies (w7.alloc (.cells #[.int .u16 0, .bool false, .slice none 0 0] 25)) 7 (.slice (some ⟨g, 0, none⟩) q gc) q (flat cPD X) := by have := HLI7.out.1.1; rwa [HX.out] at this
  have HLR := Lib.hid hlr
  clear hlr
  go_wp2_with (first | (at_builtin; refine wpList_append_lies' _ rfl _ _ 29 rfl (w7.alloc (.cells #[.int .u16 0, .bool false, .slice none 0 0] 25)).heap.size 38 i0 _ 7 40 Try.underlying29 hi0 hz0 hz1 hz2 rfl (by decide) _ 0 [] rfl (World.ownsRow_nil _ _ _ _) _ q (flat cPD X) rfl HLR.out (flatPD_one X) (by unfold maxLen; omega) (by omega) (Nat.le_refl _) ?_) | go_in)
  intro v8 w8 ho hg8 hl8
  generalize hw7 : w7.alloc _ = w7b at *
  have hsb : w7b.heap.size = w7.heap.size + 1 := by rw [← hw7, World.size_alloc]
  have ho' : w8.ownsRow w7b.heap.size 38 7 v8 X.length (flat cPD X) := by rw [hsb, HX.out]; simpa using ho
  have hl' : v8.ownBlock = none ∨ v8.ownBlock = some w7b.heap.size := by rw [hsb]; simpa [Value.ownBlock] using hl8
  have t8 : turned w7b w8 [] := turned_none hg8
  have hR := RowF.copy HLI7.out ho' t8 hl'
  obtain ⟨ra, rc, rfl, hr1, hr2, hra⟩ := row_form ho'
  obtain ⟨g2, rfl⟩ := hra (by rw [HX.out]; omega)
  have hg2 := (row_lt ho' g2 rfl).1
  have hgl : g < w7b.heap.size := (HLI7.out.1.cells 0 (by rw [HX.out]; omega)).elim fun b h => h.elim fun off h => by
    have := h.1
    simp only [Option.some.injEq, Addr.mk.injEq, and_true] at this
    rw [this.1]; exact h.2.1
  have hne : ¬ g = g2 := by omega
  have hne2 : ¬ g2 = g := by omega
  rw [HX.out] at hr1 hR ⊢
  have h0X : 0 < X.length := by rw [HX.out]; omega
  have hrX : r < X.length := by rw [HX.out]; omega
  have HLI8 := Lib.hid (HLI7.out.none_ t8)
  have O8 := Lib.hid (O7.out.past t8 (by simp))
  have T8 := Lib.hid (turned_trans T7.out t8)
  have hW8 : W.heap.size < w7b.heap.size := O7.out.lt
  have HW := Lib.hid (Nat.le_trans T7.out.2.2.2.1 hg2)
  obtain ⟨x0, hx0⟩ : ∃ x, X[0]'h0X = x := ⟨_, rfl⟩
  obtain ⟨xr, hxr⟩ : ∃ x, X[r]'hrX = x := ⟨_, rfl⟩
  obtain ⟨p0, p1, p2, p3, p4, p5, p6⟩ := piece_cells HLI8.out.1 0 h0X hx0
  obtain ⟨z0, z1, z2, z3, z4, z5, z6⟩ := piece_cells HLI8.out.1 r hrX hxr
  simp only [Nat.zero_mul, Nat.zero_add] at p0 p1 p2 p3 p4 p5 p6
  have hrow := hR.1
  rw [HX.out] at hrow
  have ef := hrow.frozenAt
  have hRl := hR.lies.1
  obtain ⟨y0, y1, y2, y3, y4, y5, y6⟩ := piece_cells hRl 0 h0X hx0
  obtain ⟨u0, u1, u2, u3, u4, u5, u6⟩ := piece_cells hRl r hrX hxr
  simp only [Nat.zero_mul, Nat.zero_add] at y0 y1 y2 y3 y4 y5 y6
  have HR8 := Lib.hid hR
  have HX0 := Lib.hid hx0
  have HXR := Lib.hid hxr
  have f0 := ef 0
  have f1 := ef 1
  have f2 := ef 2
  have f3 := ef 3
  have f4 := ef 4
  have f5 := ef 5
  have f6 := ef 6
  have k0 := ef (r * 7)
  have k1 := ef (r * 7 + 1)
  have k2 := ef (r * 7 + 2)
  have k3 := ef (r * 7 + 3)
  have k4 := ef (r * 7 + 4)
  have k5 := ef (r * 7 + 5)
  have k6 := ef (r * 7 + 6)
  have hrB : r < Bs.length := by rw [HBL.out]; exact d8
  have h0B : 0 < Bs.length := by rw [HBL.out]; omega
  have bR := hR.2.2.2 r hrX hrB
  have b0 := hR.2.2.2 0 h0X h0B
  rw [hxr] at bR
  rw [hx0] at b0
  have okr := hR.2.1 _ (List.getElem_mem hrX)
  have ok0 := hR.2.1 _ (List.getElem_mem h0X)
  rw [hxr] at okr
  rw [hx0] at ok0
  have out0 : 0 < (Bs[0]'h0B).length → ∀ a, x0.ba = some a → a.block ≠ g2 := fun h0 a ea e => b0.2 h0 a ea (by simp [Value.ownBlock, e])
  have outR : 0 < (Bs[r]'hrB).length → ∀ a, xr.ba = some a → a.block ≠ g2 := fun h0 a ea e => bR.2 h0 a ea (by simp [Value.ownBlock, e])
  have hS1 := hR.put HX.out.symm 0 h0X xr okr (Bs[r]'hrB) bR.1 outR
  have hS := hS1.put (by rw [List.length_set]; exact HX.out.symm) r (by rw [List.length_set]; exact hrX) x0 ok0 (Bs[0]'h0B) (putB b0.1 out0) out0
  have hFS : ((Bs.set 0 (Bs[r]'hrB)).set r (Bs[0]'h0B)).flatten.length ≤ 1048576 := by
    have q1 := flatten_set_le (Bs[0]'h0B) (Bs.set 0 (Bs[r]'hrB)) r
    have q2 := flatten_set_le (Bs[r]'hrB) Bs 0
    have q3 := HEACH.out r hrB
    have q4 := HEACH.out 0 h0B
    have q5 := HBT.out
    omega
  have HFS := Lib.hid hFS
  have HXS := Lib.hid (show ((X.set 0 xr).set r x0).length ≤ 100000 by rw [List.length_set, List.length_set, HX.out]; omega)
  have HNS := Lib.hid (not_whole_swap HSH.out r (by rw [HX.out]; omega) (by omega) x0 xr hx0 hxr)
  have T9 := Lib.hid (turned_put (turned_put t8 hg2 0 xr) hg2 r x0)
  have HS := Lib.hid hS
  clear ho hg8 hl8 hl' hR ho' t8 hra hr2 hw7 hsb hRl hrow ef hx0 hxr HLR bR b0 okr ok0 out0 outR hS1 hS hFS
  go_wp2_with fail
  refine (fjoin_no _ _ _ _ HS.out.lies HXS.out HFS.out HNS.out).mono ?_
  clear p0 p1 p2 p3 p4 p5 p6 z0 z1 z2 z3 z4 z5 z6 y0 y1 y2 y3 y4 y5 y6 u0 u1 u2 u3 u4 u5 u6 f0 f1 f2 f3 f4 f5 f6 k0 k1 k2 k3 k4 k5 k6
  rintro e w9 ⟨rfl, t9⟩
  unfold noMsg
  have tb := turned_trans T9.out (turned_trans t9 (turned_alloc (turned_refl w9 []) (.cells #[.int .u16 0, .bool false, .slice none 0 0] 25)))
  have LIa := Lib.hid (HLI7.out.none_ tb)
  have Oa := Lib.hid (O7.out.past tb (by simp))
  have Ta := Lib.hid (turned_trans T7.out tb)
  clear t9 tb HS HXS HFS HNS T9 HLI8 O8 T8 HR8 HLI7 O7 T7 HR7
  obtain ⟨k, hk⟩ : ∃ k : Nat, at_ % (q : Int) = (k : Int) := ⟨(at_ % (q : Int)).toNat, by have := Int.emod_nonneg at_ (show (q : Int) ≠ 0 by omega); omega⟩
  have hkl : k < q := by have := Int.emod_lt_of_pos at_ (show (0 : Int) < (q : Int) by omega); omega
  have hk' : Int.tmod at_ (q : Int) = (k : Int) := by rw [Int.tmod_eq_emod_of_nonneg ha0]; exact hk
  have hq9 : ¬ (q : Int) = 0 := by omega
  go_wp2_with fail
  generalize (w9.alloc (.cells #[.int .u16 0, .bool false, .slice none 0 0] 25)) = wa at LIa Oa Ta ⊢
  have hkX : k < X.length := by rw [HX.out]; exact hkl
  obtain ⟨x, hx⟩ : ∃ x, X[k]'hkX = x := ⟨_, rfl⟩
  have hsx := shape_at HSH.out k hkX hx
  have hxok := LIa.out.1.2 _ (List.getElem_mem hkX)
  rw [hx] at hxok
  have HXK := Lib.hid hx
  have HOK := Lib.hid hxok
  have HSX := Lib.hid hsx
  clear hx hxok hsx hk hk' hq9 hW8 hne hne2 hgl
  go_loopw [19] (fun i wr => ∃ j : Nat, j ≤ 3 ∧ i = .int .i64 (j : Int) ∧ turned wa wr []) (fun i _ => 3 - (intOf i).toNat)
  case atStart => exact ⟨0, by omega, rfl, turned_refl _ _⟩
  case round =>
    obtain ⟨j, hj, rfl, ht⟩ := hrel
    by_cases hlt : j < 3
    · have hli := LIa.out.none_ ht
      have hlr : Lies wr 7 (.slice (some ⟨g, 0, none⟩) q gc) q (flat cPD X) := by have := hli.1.1; rwa [HX.out] at this
      have HLR := Lib.hid hlr
      have HT := Lib.hid ht
      have LIj := Lib.hid hli
      clear hli hlr ht
      have OJ := Lib.hid (Oa.out.past HT.out (by simp))
      go_wp2_with (first | (at_builtin; refine wpList_append_lies' _ rfl _ _ 29 rfl wr.heap.size 38 i0 _ 7 40 Try.underlying29 hi0 hz0 hz1 hz2 rfl (by decide) _ 0 [] rfl (World.ownsRow_nil _ _ _ _) _ q (flat cPD X) rfl HLR.out (flatPD_one X) (by unfold maxLen; omega) (by omega) (Nat.le_refl _) ?_) | go_in)
      intro v12 w12 ho hg12 hl12
      have ho' : w12.ownsRow wr.heap.size 38 7 v12 X.length (flat cPD X) := by rw [HX.out]; simpa using ho
      have hl' : v12.ownBlock = none ∨ v12.ownBlock = some wr.heap.size := by simpa [Value.ownBlock] using hl12
      have t12 : turned wr w12 [] := turned_none hg12
      have hR := RowF.copy LIj.out ho' t12 hl'
      obtain ⟨na, nc, rfl, hn1, hn2, hna⟩ := row_form ho'
      obtain ⟨g3, rfl⟩ := hna (by omega)
      have hg3 := (row_lt ho' g3 rfl).1
      have hn2' : nc ≤ 9223372036854775807 := hn2
      rw [HX.out] at hn1 hR ⊢
      have hrow := hR.1
      rw [HX.out] at hrow
      obtain ⟨c0, c1, c2, c3, c4, c5, c6⟩ := piece_cells hR.lies.1 k hkX HXK.out
      have L12 := Lib.hid (LIj.out.none_ t12)
      have O12 := Lib.hid (OJ.out.past t12 (by simp))
      have T12 := Lib.hid t12
      have HG3 := Lib.hid hg3
      have HR := Lib.hid hR
      have HROW := Lib.hid hrow
      clear c0 c4 c5 c6 ho hg12 hl12 ho' hl' t12 hR hna hg3 hn2 hrow HLR LIj OJ
      rcases (show j = 0 ∨ j = 1 ∨ j = 2 by omega) with h | h | h
      · have e0 : ((j : Int) == 0) = true := beq_iff_eq.2 (by omega)
        have e1 : ((j : Int) == 1) = false := beq_eq_false_iff_ne.2 (by omega)
        have ef := HROW.out.frozenAt (k * 7 + 1)
        rw [HSX.out.2.1] at c1
        have hs9 : 0 ≤ IntKind.u16.wrap (s + 1) ∧ IntKind.u16.wrap (s + 1) < 65536 ∧ ¬ IntKind.u16.wrap (s + 1) = s := by rw [IntKind.wrap_u16]; omega
        have HN := Lib.hid (HR.out.turn' HX.out.symm k hkX 1 (by omega) (.int .u16 (IntKind.u16.wrap (s + 1))) { X[k]'hkX with s := IntKind.u16.wrap (s + 1) } rfl (by rw [HXK.out]; exact ⟨HOK.out.t0, HOK.out.t1, hs9.1, hs9.2.1, HOK.out.n0, HOK.out.n1⟩) rfl rfl rfl)
        have HNW := Lib.hid (not_whole_one HSH.out (by rw [HX.out]; omega) k hkX { X[k]'hkX with s := IntKind.u16.wrap (s + 1) } (.inl hs9.2.2))
        have HXL := Lib.hid (show (X.set k { X[k]'hkX with s := IntKind.u16.wrap (s + 1) }).length ≤ 100000 by rw [List.length_set, HX.out]; omega)
        clear hs9 h
        go_wp2_with fail
        refine (fjoin_no _ _ _ _ HN.out.lies HXL.out (by have := HBT.out; omega) HNW.out).mono ?_
        rintro e w13 ⟨rfl, t13⟩
        unfold noMsg
        have T13 := Lib.hid (turned_trans (turned_setNew T12.out HG3.out _) t13)
        clear t13 c1 c2 c3 ef
        go_wp2_with fail
        go_roundw
        case rel => exact ⟨j + 1, by omega, by go_num, turned_alloc (turned_trans HT.out T13.out) _⟩
        case measure => simp only [intOf]; omega
      · have e0 : ((j : Int) == 0) = false := beq_eq_false_iff_ne.2 (by omega)
        have e1 : ((j : Int) == 1) = true := beq_iff_eq.2 (by omega)
        have ef := HROW.out.frozenAt (k * 7 + 2)
        by_cases hss : ssn = own
        · have e2 : (ssn == own) = true := beq_iff_eq.2 hss
          have eX : X.set k { X[k]'hkX with n := ssn } = X := by
            rw [show ({ X[k]'hkX with n := ssn } : PD) = X[k]'hkX by rw [hss, ← HSX.out.2.2.1, ← HXK.out], List.set_getElem_self]
          have hN := HR.out.turn' HX.out.symm k hkX 2 (by omega) (.int .u16 ssn) { X[k]'hkX with n := ssn } rfl (by rw [HXK.out]; exact ⟨HOK.out.t0, HOK.out.t1, HOK.out.s0, HOK.out.s1, hn.1, hn.2⟩) rfl rfl rfl
          rw [eX] at hN
          have HN := Lib.hid hN
          have hs0 := shape_at HSH.out 0 (by rw [HX.out]; omega) rfl
          have HS0 := Lib.hid hs0
          have HE2 := Lib.hid e2
          clear hss eX hN hs0 h
          go_wp2_with fail
          refine (fjoin_yes _ X Bs _ HN.out.lies (by rw [HX.out]; omega) (by have := HBT.out; omega) HWH.out s (!o) (by rw [HX.out]; omega) HS0.out.2.1 HS0.out.2.2.2.1).mono ?_
          rintro e w13 ⟨ja, jc, rfl, _, t13⟩
          have t14 := turned_trans (turned_setNew T12.out HG3.out (.int .u16 ssn)) t13
          have hL13 := LIa.out.none_ (turned_trans HT.out t14)
          have n2 := (piece_cells hL13.1 k hkX HXK.out).2.2.1
          rw [HSX.out.2.2.1] at n2
          have hg13 : g < w13.heap.size := World.block_lt_of_cell? _ _ n2
          have T13 := Lib.hid t14
          have e2 := HE2.out
          clear t13 t14 hL13 c1 c2 c3 ef
          go_wp2_with fail
          go_roundw
          case rel => exact ⟨j + 1, by omega, by go_num, turned_alloc (turned_trans HT.out T13.out) _⟩
          case measure => simp only [intOf]; omega
        · have e2 : (ssn == own) = false := beq_eq_false_iff_ne.2 hss
          have HN := Lib.hid (HR.out.turn' HX.out.symm k hkX 2 (by omega) (.int .u16 ssn) { X[k]'hkX with n := ssn } rfl (by rw [HXK.out]; exact ⟨HOK.out.t0, HOK.out.t1, HOK.out.s0, HOK.out.s1, hn.1, hn.2⟩) rfl rfl rfl)
          have HNW := Lib.hid (not_whole_one HSH.out (by rw [HX.out]; omega) k hkX { X[k]'hkX with n := ssn } (.inr (.inl hss)))
          have HXL := Lib.hid (show (X.set k { X[k]'hkX with n := ssn }).length ≤ 100000 by rw [List.length_set, HX.out]; omega)
          have HE2 := Lib.hid e2
          clear hss h
          go_wp2_with fail
          refine (fjoin_no _ _ _ _ HN.out.lies HXL.out (by have := HBT.out; omega) HNW.out).mono ?_
          rintro e w13 ⟨rfl, t13⟩
          unfold noMsg
          have t14 := turned_trans (turned_setNew T12.out HG3.out (.int .u16 ssn)) t13
          have hL13 := LIa.out.none_ (turned_trans HT.out t14)
          have n2 := (piece_cells hL13.1 k hkX HXK.out).2.2.1
          rw [HSX.out.2.2.1] at n2
          have hg13 : g < w13.heap.size := World.block_lt_of_cell? _ _ n2
          have T13 := Lib.hid t14
          have e2 := HE2.out
          clear t13 t14 hL13 c1 c2 c3 ef
          go_wp2_with fail
          go_roundw
          case rel => exact ⟨j + 1, by omega, by go_num, turned_alloc (turned_trans HT.out T13.out) _⟩
          case measure => simp only [intOf]; omega
      · have e0 : ((j : Int) == 0) = false := beq_eq_false_iff_ne.2 (by omega)
        have e1 : ((j : Int) == 1) = false := beq_eq_false_iff_ne.2 (by omega)
        have ef := HROW.out.frozenAt (k * 7 + 3)
        have m1 := O12.out.cell 1 rfl
        have HN := Lib.hid (HR.out.turn' HX.out.symm k hkX 3 (by omega) (.bool o) { X[k]'hkX with u := o } rfl (by rw [HXK.out]; exact ⟨HOK.out.t0, HOK.out.t1, HOK.out.s0, HOK.out.s1, HOK.out.n0, HOK.out.n1⟩) rfl rfl rfl)
        have HNW := Lib.hid (not_whole_one HSH.out (by rw [HX.out]; omega) k hkX { X[k]'hkX with u := o } (.inr (.inr (show o ≠ (!o) by cases o <;> decide))))
        have HXL := Lib.hid (show (X.set k { X[k]'hkX with u := o }).length ≤ 100000 by rw [List.length_set, HX.out]; omega)
        clear h
        go_wp2_with fail
        refine (fjoin_no _ _ _ _ HN.out.lies HXL.out (by have := HBT.out; omega) HNW.out).mono ?_
        rintro e w13 ⟨rfl, t13⟩
        unfold noMsg
        have T13 := Lib.hid (turned_trans (turned_setNew T12.out HG3.out _) t13)
        clear t13 c1 c2 c3 ef
        go_wp2_with fail
        go_roundw
        case rel => exact ⟨j + 1, by omega, by go_num, turned_alloc (turned_trans HT.out T13.out) _⟩
        case measure => simp only [intOf]; omega
    · have HT := Lib.hid (turned_trans Ta.out ht)
      clear ht
      go_wp2_with fail
      refine (works17 _).mono ?_
      rintro e w7 ⟨rfl, t7⟩
      go_wp2
      go_ret
      exact ⟨rfl, turned_below (turned_trans HT.out t7)⟩
theorem fragWants.walk (W : World) (v : Value) (x : Int × Bool × List Int) (h : IsMsg W v x) (most : Int) (hm : (Lit.int .i64 most).wf = true) (v2 : Value) (x2 : Int × Int) (h2 : IsTwo W v2 x2) :
    Calls Try.prog 7 #[v, .int .i64 most, v2] W fun e w' => e = .returned (.bool true) ∧ Below W.heap.size W w' := by
  obtain ⟨s, o, B⟩ := x
  obtain ⟨at_, ssn⟩ := x2
  obtain ⟨bv, rfl, hB, hs0, hs1⟩ := h
  obtain ⟨rfl, ha, hn⟩ := h2
  have hm' := wf_i64_range hm
  simp only at hB hs0 hs1 ha hn ⊢
  by_cases hl : isLong B.length most
  · exact wants_long W s o bv B most at_ ssn hB hm' (.inl hl)
  by_cases hb : 65536 < B.length
  · exact wants_long W s o bv B most at_ ssn hB hm' (.inr ⟨hl, hb⟩)
  by_cases h1 : most < 1
  · exact wants_none W s o bv B most at_ ssn hB hm' (.inl h1) hl (by omega)
  by_cases h2 : B.length = 0
  · exact wants_none W s o bv B most at_ ssn hB hm' (.inr ⟨by omega, h2⟩) hl (by omega)
  obtain ⟨p, rfl⟩ : ∃ p : Nat, most = (p : Int) := ⟨most.toNat, by omega⟩
  by_cases h3 : nP B.length p < 2
  · exact wants_one W s o bv B p at_ ssn hB ⟨hs0, hs1⟩ ha hn (by omega) (by omega) (by omega) (by omega) hl h3
  · exact wants_good W s o bv B p at_ ssn hB ⟨hs0, hs1⟩ ha hn (by omega) (by omega) (by omega) (by omega) hl (by omega)
end Go.Proofs.Ytcfpgeceenkheaa
