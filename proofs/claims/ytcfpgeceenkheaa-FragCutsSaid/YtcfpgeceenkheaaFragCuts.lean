/- FragCuts' walk. No condition. -/
import Derived.Test.YtcfpgeceenkheaaFragCutsP
namespace Go.Proofs.Ytcfpgeceenkheaa
open Go.RowKit Go.Deep
set_option linter.unusedVariables false
set_option linter.unusedSimpArgs false

/-- What the law holds: the message, its copy with marks. -/
structure CI (W w : World) (s : Int) (o : Bool) (a : Option Addr) (n cap b7 g : Nat) (B : List Int) : Prop where
  m : obj w W.heap.size 25 [.int .u16 s, .bool o, .slice a n cap]
  b : LiesB W (.slice a n cap) B
  i : obj w b7 25 [.int .u16 s, .bool o, .slice (some ⟨g, 0, none⟩) n (n + 16)]
  g : obj w g 5 (flat cB (marked B))
  t : turned W w []
theorem CI.past {W w w' : World} {s : Int} {o : Bool} {a : Option Addr} {n cap b7 g : Nat} {B : List Int} (h : CI W w s o a n cap b7 g B) (t : turned w w' []) : CI W w' s o a n cap b7 g B :=
  ⟨h.m.past t (by simp), h.b, h.i.past t (by simp), h.g.past t (by simp), turned_trans h.t t⟩
theorem infoSl : (Try.prog.info? 23).map (fun i => (i.zero, i.size, i.bytes)) = some (some (.slice none 0 0), 1, 24) := by kernel_rfl
set_option maxRecDepth 100000 in
set_option maxHeartbeats 4000000 in
theorem cuts_main (W : World) (s : Int) (o : Bool) (bv : Value) (B : List Int) (ssn most : Int) (hB : LiesB W bv B) (hmb : -9223372036854775808 ≤ most ∧ most ≤ 9223372036854775807) (hlong : ¬ isLong B.length most) (hlen : B.length ≤ 2097152) (own E : Int) (Bs : List (List Int))
    (HC : ∀ w v, LiesB w v B → Calls Try.prog 13 #[.agg #[.int .u16 s, .bool o, v], .int .u16 ssn, .int .i64 most] w (FAny w s own (!o) E Bs))
    (HR : ∀ w v, LiesB w v B → Calls Try.prog 14 #[.agg #[.int .u16 s, .bool o, v], .int .u16 ssn, .int .i64 most] w (RAny w s own (!o) E Bs))
    (hb : ∀ i (hi : i < Bs.length), 1 ≤ (Bs[i]'hi).length ∧ (Bs[i]'hi).length ≤ 4000000) (hq : Bs.length ≤ 100000) :
    Calls Try.prog 3 #[.agg #[.int .u16 s, .bool o, bv], .int .u16 ssn, .int .i64 most] W fun e w' => e = .returned (.bool true) ∧ Below W.heap.size W w' := by
  obtain ⟨a, cap, rfl, hc1, hc2⟩ := hB.1.form
  obtain ⟨n, hn⟩ : ∃ n, B.length = n := ⟨_, rfl⟩
  have HNN := Lib.hid hn
  have OB := Lib.hid (msgBox W s o (.slice a n cap))
  have TB := Lib.hid (turned_alloc (turned_refl W []) (.cells #[.int .u16 s, .bool o, .slice a n cap] 25))
  have HB := Lib.hid (show LiesB (W.alloc (.cells #[.int .u16 s, .bool o, .slice a n cap] 25)) (.slice a n cap) B from by have := hB.none_ TB.out; rw [hn] at this; exact this)
  have HB0 := Lib.hid (show LiesB W (.slice a n cap) B from by have := hB; rw [hn] at this; exact this)
  have HL := Lib.hid hlong
  have HCC := Lib.hid HC
  have HRR := Lib.hid HR
  have HBB := Lib.hid hb
  have HQ := Lib.hid hq
  rw [hn] at hc1 hlen ⊢
  clear hlong hB HC HR hb hq hn
  have d0 : decide ((2097152 : Int) < (n : Int)) = false := decide_eq_false (by omega)
  go_enter Try.func3, Try.ntmps3
  go_wp2_with fail
  generalize (W.alloc (.cells #[.int .u16 s, .bool o, .slice a n cap] 25)) = w1 at OB TB HB ⊢
  refine (long_no s o _ B most w1 HB.out hmb HL.out).mono ?_
  rintro e w2 ⟨rfl, t2⟩
  have O2 := Lib.hid (OB.out.past t2 (by simp))
  have B2 := Lib.hid (HB.out.none_ t2)
  have T2 := Lib.hid (turned_trans TB.out t2)
  have m2 := O2.out.cell 2 rfl
  clear t2
  go_upto_region 3 with (fail)
  have t3 := turned_alloc (turned_refl w2 []) (.cells #[.int .u16 s, .bool o, .slice a n cap] 25)
  have I3 := Lib.hid (obj.new w2 25 [.int .u16 s, .bool o, .slice a n cap])
  have O3 := Lib.hid (O2.out.past t3 (by simp))
  have B3 := Lib.hid (B2.out.none_ t3)
  have T3 := Lib.hid (turned_trans T2.out t3)
  have hb7 : W.heap.size < w2.heap.size := O2.out.lt
  go_upto_region 4 with (first
    | (refine wpList_load_row rfl _ _ rfl W.heap.size rfl _ _ _ _ O2.out Try.underlying25 rfl (by kernel_rfl) ?_)
    | fail)
  -- REST
  have HRO := Lib.hid (fun w h => (by have := roomy (.slice a n cap) B w h (by rw [HNN.out]; exact hlen); rw [HNN.out] at this; exact this : Calls Try.prog 12 #[.slice a n cap] w fun e w' => e = .returned (.slice (some ⟨w.heap.size, 0, none⟩) n (n + 16)) ∧ obj w' w.heap.size 5 (flat cB (marked B)) ∧ turned w w' []))
  have HKE := Lib.hid (fun g w h1 h2 => (by have := kept_ g B (.slice a n cap) w h1 h2 (by rw [HNN.out]; exact hlen); rw [HNN.out] at this; exact this : Calls Try.prog 16 #[.slice (some ⟨g, 0, none⟩) n (n + 16), .slice a n cap] w fun e w' => e = .returned (.bool true) ∧ turned w w' []))
  generalize hw3 : w2.alloc (.cells #[.int .u16 s, .bool o, .slice a n cap] 25) = w3 at I3 O3 B3 T3 ⊢
  generalize hbe : w2.heap.size = b7 at I3 hb7 ⊢
  clear t3 hw3 hbe m2
  have m2 := O3.out.cell 2 rfl
  go_wp2_with fail
  refine (HRO.out w3 B3.out).mono ?_
  rintro e w4 ⟨rfl, hg, t4⟩
  have hI4 := I3.out.past t4 (by simp)
  have i2 := hI4.cell 2 rfl
  have f2 := hI4.free 2
  have hgsz : w3.heap.size < w4.heap.size := hg.lt
  have hWg : W.heap.size ≤ w3.heap.size := T3.out.2.2.2.1
  have h7l : b7 < w3.heap.size := I3.out.lt
  have ts : turned w4 (w4.setCell ⟨b7, 2, none⟩ (.slice (some ⟨w3.heap.size, 0, none⟩) n (n + 16))) [b7] := turned_set (turned_refl _ _) (List.mem_singleton.2 rfl) _
  have hci : CI W (w4.setCell ⟨b7, 2, none⟩ (.slice (some ⟨w3.heap.size, 0, none⟩) n (n + 16))) s o a n cap b7 w3.heap.size B :=
    ⟨(O3.out.past t4 (by simp)).past ts (fun e => by have := List.mem_singleton.1 e; omega),
     HB0.out,
     hI4.set 2 _, hg.past ts (fun e => by have := List.mem_singleton.1 e; omega), turned_setNew (turned_trans T3.out t4) (Nat.le_of_lt hb7) _⟩
  have H5 := Lib.hid hci
  clear hci ts hg hI4
  go_upto_region 5 with (fail)
  obtain ⟨w5, hw5⟩ : ∃ w5, w4.setCell ⟨b7, 2, none⟩ (.slice (some ⟨w3.heap.size, 0, none⟩) n (n + 16)) = w5 := ⟨_, rfl⟩
  obtain ⟨g, hge⟩ : ∃ g, w3.heap.size = g := ⟨_, rfl⟩
  rw [hge] at hw5 H5 hgsz hWg ⊢
  rw [hw5] at H5 ⊢
  have hg5 : g < w5.heap.size := H5.out.g.lt
  clear hw5 hge i2 f2 t4 O3 B3 I3 m2
  have HIN := Lib.hid (fun w' (h : CI W w' s o a n cap b7 g B) => (by
    have := h.g.liesB (n := B.length) (c := n + 16) (by rw [marked_len]; omega) (by rw [HNN.out]; omega) (by omega) (marked_in h.b.2)
    rw [marked_take, HNN.out] at this
    exact this : LiesB w' (.slice (some ⟨g, 0, none⟩) n (n + 16)) B))
  go_wp2_with (first
    | (refine wpList_load_row rfl _ _ rfl b7 rfl _ _ _ _ H5.out.i Try.underlying25 rfl (by kernel_rfl) ?_)
    | fail)
  refine (HCC.out w5 _ (HIN.out w5 H5.out)).mono ?_
  rintro e w6 ⟨la, ln, lc, X, rfl, hmade, hlies, hsh, t6⟩
  have H6 := Lib.hid (H5.out.past t6)
  have M6 := Lib.hid hmade
  have L6 := Lib.hid hlies
  have SH := Lib.hid hsh
  clear hmade hlies hsh t6
  go_upto_region 6 with (fail)
  go_wp2_with (first
    | (refine wpList_load_row rfl _ _ rfl W.heap.size rfl _ _ _ _ H6.out.m Try.underlying25 rfl (by kernel_rfl) ?_)
    | fail)
  refine (HRR.out w6 _ (H6.out.b.none_ H6.out.t)).mono ?_
  rintro e w7 ⟨kv, Y, rfl, hlY, hsY, t7⟩
  have H7 := Lib.hid (H6.out.past t7)
  have M7 := Lib.hid (M6.out.none_ t7)
  have L7 := Lib.hid (L6.out.none_ t7)
  have LY := Lib.hid hlY
  have TW := Lib.hid (twin_of SH.out hsY (by have h1 := hlY.2.1; have h2 := L6.out.2.1; omega))
  have hXl : X.length = Bs.length := L6.out.2.1.symm
  have hln : ln = X.length := by
    obtain ⟨_, a', cap', e, _⟩ := L6.out.1.1
    cases e
    rfl
  have HXL := Lib.hid hXl
  have HLN := Lib.hid hln
  clear hlY hsY t7 M6 L6 hXl hln
  have i2 := H7.out.i.cell 2 rfl
  have m2 := H7.out.m.cell 2 rfl
  go_wp2_with fail
  refine (same_yes _ _ X Y Bs w7 L7.out LY.out TW.out (fun i hi => (HBB.out i hi).2)).mono ?_
  rintro e w8 ⟨rfl, t8⟩
  have H8 := Lib.hid (H7.out.past t8)
  have M8 := Lib.hid (M7.out.none_ t8)
  have L8 := Lib.hid (L7.out.none_ t8)
  clear t8 i2 m2 H7 M7 L7
  have i2 := H8.out.i.cell 2 rfl
  have m2 := H8.out.m.cell 2 rfl
  go_wp2_with fail
  refine (HKE.out g w8 H8.out.g (H8.out.b.none_ H8.out.t)).mono ?_
  rintro e w9 ⟨rfl, t9⟩
  have H9 := Lib.hid (H8.out.past t9)
  have M9 := Lib.hid (M8.out.none_ t9)
  have L9 := Lib.hid (L8.out.none_ t9)
  clear t9 i2 m2 H8 M8 L8
  by_cases hbig : 60 < ln
  · have d1 : decide ((60 : Int) < (ln : Int)) = true := decide_eq_true (by omega)
    go_wp2_with fail
    refine (works17 _).mono ?_
    rintro e wz ⟨rfl, tz⟩
    go_wp2
    go_ret
    exact ⟨rfl, turned_below (turned_trans H9.out.t tz)⟩
  have d1 : decide ((60 : Int) < (ln : Int)) = false := decide_eq_false (by omega)
  have i2 := H9.out.i.cell 2 rfl
  go_wp2_with fail
  have t10 := turned_alloc (turned_refl w9 []) (.cells #[.slice (some ⟨g, 0, none⟩) n (n + 16)] 23)
  have H10 := Lib.hid (H9.out.past t10)
  have hP0 : (⟨g, n, n + 16, marked B⟩ : PT).ok (w9.alloc (.cells #[.slice (some ⟨g, 0, none⟩) n (n + 16)] 23)) := ⟨H10.out.g, marked_in H9.out.b.2, by show n ≤ n + 16; omega, by show n + 16 ≤ (marked B).length; rw [marked_len, HNN.out]; exact Nat.le_refl _, by show n + 16 ≤ 9223372036854775807; omega⟩
  have hA0 : (w9.alloc (.cells #[.slice (some ⟨g, 0, none⟩) n (n + 16)] 23)).ownsRow w9.heap.size 23 1 (.slice (some ⟨w9.heap.size, 0, none⟩) 1 1) 1 (flat cPT [⟨g, n, n + 16, marked B⟩]) :=
    World.ownsRow_lit (base := w9.heap.size) (e := 23) (size := 1) w9 #[.slice (some ⟨g, 0, none⟩) n (n + 16)] 1 (Nat.le_refl _) (by decide) (by simp)
  have HP0 := Lib.hid hP0
  have HA0 := Lib.hid hA0
  have T10 := Lib.hid t10
  have hln60 : ln ≤ 60 := by omega
  clear t10 hP0 hA0 i2 hbig
  go_loopw [12, 13] (fun av iv wr => ∃ (i : Nat) (R : List PT), i ≤ ln ∧ iv = .int .i64 (i : Int) ∧ wr.ownsRow w9.heap.size 23 1 av R.length (flat cPT R) ∧ R.length = i + 1 ∧ (∀ x, x ∈ R → x.ok wr) ∧ turned w9 wr [] ∧ (∀ h : 0 < R.length, (R[0]'h).g = g) ∧ ∀ k (h : k + 1 < R.length) (h' : k < X.length), (X[k]'h').ba = some ⟨(R[k + 1]'h).g, 0, none⟩ ∧ w5.heap.size ≤ (R[k + 1]'h).g) (fun _ iv _ => ln - (intOf iv).toNat)
  case atStart => exact ⟨0, [⟨g, n, n + 16, marked B⟩], Nat.zero_le _, rfl, HA0.out, rfl, by intro x hx; rw [List.mem_singleton.1 hx]; exact HP0.out, T10.out, fun _ => rfl, by intro k h; simp at h⟩
  case round =>
    obtain ⟨i, R, hi, rfl, hrow, hRl, hRok, tw, hR0, hRX⟩ := hrel
    obtain ⟨aa, ac, rfl, _, _, _⟩ := row_form hrow
    have HROW := Lib.hid hrow
    have HRL := Lib.hid hRl
    have HROK := Lib.hid hRok
    have TWR := Lib.hid tw
    have HR0 := Lib.hid hR0
    have HRX := Lib.hid hRX
    clear hrow hRl hRok tw hR0 hRX
    by_cases hlt : i < ln
    · have hiX : i < X.length := by rw [← HLN.out]; exact hlt
      have hiB : i < Bs.length := by rw [← HXL.out]; exact hiX
      have hM := M9.out.none_ TWR.out
      obtain ⟨y, hy1, hy2, hy3, hy4⟩ := piece_pt (hM.2.2.1 i hiX hiB) (HBB.out i hiB).1
      have hD := (L9.out.1.none_ TWR.out)
      obtain ⟨b, off, rfl, _, _, _, _, _, _, _, c6⟩ := (show LiesD wr (.slice la ln lc) X from hD).cells i hiX
      have hyv : Value.slice (some ⟨y.g, 0, none⟩) y.n y.c = .slice (X[i]'hiX).ba (X[i]'hiX).bn (X[i]'hiX).bc := by
        have := hy1
        simpa [cPT] using this
      rw [← hyv] at c6
      have hba : (X[i]'hiX).ba = some ⟨y.g, 0, none⟩ := by
        simp only [Value.slice.injEq] at hyv
        exact hyv.1.symm
      have HBA := Lib.hid hba
      have HY2 := Lib.hid hy2
      have HY3 := Lib.hid hy3
      have hii : (i : Int) < (ln : Int) := by omega
      have hi0 : (0 : Int) ≤ (i : Int) := by omega
      have tl := turned_alloc (turned_refl wr []) (.cells #[.slice (some ⟨y.g, 0, none⟩) y.n y.c] 23)
      have HYL := Lib.hid (show Lies (wr.alloc (.cells #[.slice (some ⟨y.g, 0, none⟩) y.n y.c] 23)) 1 (.slice (some ⟨wr.heap.size, 0, none⟩) 1 1) 1 (flat cPT [y]) from
        Lies.row (World.ownsRow_lit (base := wr.heap.size) (e := 23) (size := 1) wr #[.slice (some ⟨y.g, 0, none⟩) y.n y.c] 1 (Nat.le_refl _) (by decide) (by simp)))
      have HRL2 := Lib.hid (row_past HROW.out tl (by simp))
      have HBS := Lib.hid (show w9.heap.size ≤ (wr.alloc (.cells #[.slice (some ⟨y.g, 0, none⟩) y.n y.c] 23)).heap.size from (turned_trans TWR.out tl).2.2.2.1)
      have TL := Lib.hid tl
      have hR60 : R.length ≤ 100 := by have := HRL.out; omega
      obtain ⟨i1, hi1, hs0, hs1, hs2⟩ := info_parts infoSl
      clear hM hy1 hy2 hy3 hy4 hD hyv hba tl
      go_wp2_with (first | (at_builtin; go_loud (refine wpList_append_lies' _ rfl _ _ 35 rfl w9.heap.size 23 i1 (.slice none 0 0) 1 24 Try.underlying35 hi1 hs0 hs1 hs2 rfl (by decide) _ R.length (flat cPT R) rfl HRL2.out (.slice (some ⟨wr.heap.size, 0, none⟩) 1 1) 1 (flat cPT [y]) rfl HYL.out (flat_one cPT_one _) (by unfold maxLen; omega) (by omega) HBS.out ?_; intro v' wA ha hg2 hl'; have HA := Lib.hid ha; have HG2 := Lib.hid hg2; have TA := Lib.hid (turned_new (turned_trans TWR.out TL.out) hg2 (fun q e => (row_lt HROW.out q e).1)); clear ha hg2 hl')) | fail)
      go_roundw
      case rel =>
        have tA : turned (wr.alloc (.cells #[.slice (some ⟨y.g, 0, none⟩) y.n y.c] 23)) wA (Value.slice aa R.length ac).ownBlock.toList := turned_grown (turned_refl _ _) HG2.out (fun q e => .inl (Option.mem_toList.2 e))
        have hok : ∀ z : PT, z.ok wr → z.ok wA := fun z hz => (hz.past TL.out (by simp)).past tA (fun e => row_ne HRL2.out (hz.past TL.out (by simp)).o (by decide) (Option.mem_toList.1 e))
        refine ⟨i + 1, R ++ [y], by omega, by go_num, by rw [List.length_append, List.length_singleton, flat_app]; exact HA.out, by rw [List.length_append, List.length_singleton, HRL.out], fun z hz => ?_, TA.out, fun h => ?_, fun k h h' => ?_⟩
        · rcases List.mem_append.1 hz with hz | hz
          · exact hok z (HROK.out z hz)
          · rw [List.mem_singleton.1 hz]; exact hok y HY2.out
        · have h0 : 0 < R.length := by have := HRL.out; omega
          rw [List.getElem_append_left h0]
          exact HR0.out h0
        · rcases Nat.lt_or_ge (k + 1) R.length with g1 | g1
          · rw [List.getElem_append_left g1]
            exact HRX.out k g1 h'
          · have hki : k = i := by have h1 := HRL.out; simp at h; omega
            subst hki
            rw [List.getElem_append_right g1]
            simp only [HRL.out, Nat.sub_self, List.getElem_singleton]
            exact ⟨HBA.out, HY3.out⟩
      case measure => simp only [intOf]; omega
    · have hil : i = ln := by omega
      subst hil
      have hnl : ¬ (i : Int) < (i : Int) := by omega
      have hR60 : R.length ≤ 1000 := by have := HRL.out; omega
      have hdist : ∀ p q (hp : p < R.length) (hq : q < R.length), p ≠ q → (R[p]'hp).g ≠ (R[q]'hq).g := fun p q hp hq hpq => by
        have hXR : X.length + 1 = R.length := by rw [HRL.out, ← HLN.out]
        cases p with
        | zero =>
          cases q with
          | zero => exact absurd rfl hpq
          | succ q =>
            have h1 := (HRX.out q hq (by omega)).2
            rw [HR0.out hp]
            omega
        | succ p =>
          have h1 := HRX.out p hp (by omega)
          cases q with
          | zero =>
            rw [HR0.out hq]
            have := h1.2
            omega
          | succ q =>
            have h2 := HRX.out q hq (by omega)
            exact M9.out.2.2.2 p q (by omega) (by omega) (by omega) _ _ h1.1 h2.1
      have hall : ∀ q, q ∈ R.map PT.g → W.heap.size ≤ q := fun q hq => by
        obtain ⟨z, hz, rfl⟩ := List.mem_map.1 hq
        obtain ⟨k, hk, rfl⟩ := List.getElem_of_mem hz
        have hXR : X.length + 1 = R.length := by rw [HRL.out, ← HLN.out]
        cases k with
        | zero => rw [HR0.out hk]; exact hWg
        | succ k =>
          have h1 := (HRX.out k hk (by omega)).2
          have h2 := H5.out.t.2.2.2.1
          omega
      have HDIST := Lib.hid hdist
      have HALL := Lib.hid hall
      clear hdist hall
      go_wp2_with fail
      refine (apart _ R w9.heap.size wr HROW.out HDIST.out HROK.out hR60).mono ?_
      rintro e w11 ⟨rfl, ta⟩
      have T11 := Lib.hid (turned_narrow' (turned_trans H9.out.t TWR.out) ta HALL.out)
      clear ta
      go_wp2_with fail
      refine (works17 _).mono ?_
      rintro e w12 ⟨rfl, tz⟩
      have TF := Lib.hid (turned_trans T11.out tz)
      clear tz
      go_wp2_with fail
      go_ret
      exact ⟨rfl, turned_below TF.out⟩
end Go.Proofs.Ytcfpgeceenkheaa
