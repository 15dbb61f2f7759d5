/- The walks of RtoLater, RtoFirst, RtoNil. No condition. -/
import Derived.Test.YtkggggpikebbkaaRtoBounds
namespace Go.Proofs.Ytkggggpikebbkaa
open Go.RowKit Go.ChangeShapes Go.WideShapes Go.Deep
set_option linter.unusedVariables false
set_option linter.unusedSimpArgs false

/-- Times that came in. -/
def Times (W : World) (v : Value) (x : Nat × (Nat → Int)) : Prop :=
  IsSl W v x.1 1 (fun i _ => .int .i64 (x.2 i)) ∧ ∀ i, i < x.1 → -9223372036854775808 ≤ x.2 i ∧ x.2 i ≤ 9223372036854775807
theorem opened39 {H : Type} {enc : TypeId × Value → H} {W : World} {r : Reach} {base : Nat} {v : Value} {d : DataW H} {p : List MemPlace}
    (hv : Value.okWide Try.prog W r base 39 v) (h : DataW.Trod enc Try.prog W 0 (fun _ => true) true 39 v d p) : ∃ x, Times W v x := by
  obtain ⟨n, V, hsl, hV⟩ := openSl1 Try.underlying39 (by kernel_rfl) hv h
  have e1 : ∀ i, i < n → ∃ c : Int, V i 0 = .int .i64 c ∧ (Lit.int .i64 c).wf = true := fun i hi => by
    obtain ⟨m, y, hy⟩ := hV i hi
    exact trod_int1 Try.underlying2 hy
  obtain ⟨ts, hts⟩ := choose_lt e1
  refine ⟨(n, ts), isSl_congr hsl fun i j hi hj => ?_, fun i hi => bounds_i64 (hts i hi).2⟩
  have : j = 0 := by omega
  subst this
  rw [(hts i hi).1]

/-- An estimator that was sampled at 0 alone. -/
def RS.flat (x : RS) : Prop := x.s = 0 ∧ x.y = 0
theorem flat_sample {x : RS} (h : x.ok) (hz : x.flat) : (x.sample 0).flat ∧ (x.sample 0).v = clamp 1 x.l x.m := by
  obtain ⟨h1, h2⟩ := hz
  unfold RS.flat RS.sample ns ny
  simp only [h1, h2]
  cases x.any <;> exact ⟨⟨by decide, by decide⟩, by congr 1⟩
theorem sample_ge {x : RS} (h : x.ok) {t : Int} (ht : 0 ≤ t) : clamp 1 x.l x.m ≤ (x.sample t).v := by
  have h1 := ns_bd h ht
  have h2 := ny_bd h ht
  unfold RS.ok at h
  simp only [RS.sample, clamp]
  omega

def LRel (W : World) (b1 b2 n : Nat) (l m : Int) (i : Value) (wr : World) : Prop :=
  ∃ (k : Nat) (st z : RS), k ≤ n ∧ i = .int .i64 (k : Int) ∧ st.ok ∧ z.ok ∧ z.flat ∧ st.l = l ∧ st.m = m ∧ z.l = l ∧ z.m = m ∧ obj wr b1 45 st.cells ∧ obj wr b2 45 z.cells ∧ Below W.heap.size W wr

set_option maxRecDepth 100000 in
set_option maxHeartbeats 8000000 in
theorem later_good (f l m : Int) (hf : fits f l m) (v : Value) (x : Nat × (Nat → Int)) (W : World) (ho : Times W v x) (hn : x.1 ≤ 500) :
    Calls Try.prog 6 #[.int .i64 f, .int .i64 l, .int .i64 m, v] W fun e w' => e = .returned (.bool true) ∧ Below W.heap.size W w' := by
  obtain ⟨n, ts⟩ := x
  obtain ⟨⟨a, cap, rfl, hcap, hcap2, hsl⟩, hts⟩ := ho
  simp only at hn hts hsl hcap
  have HSL := Lib.hid hsl
  have HTS := Lib.hid hts
  have HF := Lib.hid hf
  have hlm : l ≤ m := by unfold fits at hf; omega
  clear hsl hts hf
  go_enter Try.func6, Try.ntmps6
  go_wp2_with fail
  refine (new_any f l m HF.out _).mono ?_
  rintro e w1 ⟨rfl, o1, g1⟩
  have O1 := Lib.hid o1
  have G1 := Lib.hid g1
  clear o1 g1
  go_wp2_with fail
  refine (new_any f l m HF.out _).mono ?_
  rintro e w2 ⟨rfl, o2, g2⟩
  have O2 := Lib.hid o2
  have G2 := Lib.hid g2
  clear o2 g2
  go_wp2_with fail
  have hsz1 := G1.out.size
  have hlt1 := O1.out.lt
  go_loopw [13] (fun i wr => LRel W W.heap.size w1.heap.size n l m i wr) (fun i _ => n - (intOf i).toNat)
  case atStart => exact ⟨0, RS.init f l m, RS.init f l m, Nat.zero_le _, rfl, ok_init HF.out, ok_init HF.out, ⟨rfl, rfl⟩, rfl, rfl, rfl, rfl, O1.out.kept G2.out (by simp), O2.out, below_none (below_none (Below.refl _ _) G1.out) G2.out⟩
  case round =>
    obtain ⟨k, st, z, hk, rfl, hok, hokz, hz, hl, hm, hlz, hmz, h1, h2, hbel⟩ := hrel
    have HOK := Lib.hid hok
    have HOKZ := Lib.hid hokz
    have HZ := Lib.hid hz
    have HL := Lib.hid hl
    have HM := Lib.hid hm
    have HLZ := Lib.hid hlz
    have HMZ := Lib.hid hmz
    have H1 := Lib.hid h1
    have H2 := Lib.hid h2
    have HB := Lib.hid hbel
    clear hl hm hlz hmz h1 h2 hbel hok hokz hz
    by_cases hlt : k < n
    · rcases HSL.out with h0 | ⟨b, off, rfl, hb, hc⟩
      · omega
      have hc0 := hc k 0 hlt (by decide)
      have hr0 := sl_cell hc0 hb HB.out
      simp only [Nat.add_zero, Nat.mul_one] at hr0
      have ht := HTS.out k hlt
      have hbne : b ≠ W.heap.size := by omega
      have hbne2 : b ≠ w1.heap.size := by omega
      clear hc hc0
      by_cases hneg : ts k < 0
      · go_wp2_with fail
        go_roundw
        case rel => exact ⟨k + 1, st, z, by omega, by go_num, HOK.out, HOKZ.out, HZ.out, HL.out, HM.out, HLZ.out, HMZ.out, H1.out, H2.out, HB.out⟩
        case measure => simp [intOf]; omega
      · have hpos : 0 ≤ ts k := by omega
        have HOK2 := Lib.hid (ok_sample HOK.out hpos)
        have HOKZ2 := Lib.hid (ok_sample HOKZ.out (Int.le_refl 0))
        have HZ2 := Lib.hid (flat_sample HOKZ.out HZ.out)
        have HGE := Lib.hid (sample_ge HOK.out hpos)
        go_wp2_with fail
        refine (sample_any st HOK.out _ _ hpos ht.2 _ H1.out).mono ?_
        rintro e w3 ⟨rfl, o3, g3⟩
        have O3 := Lib.hid o3
        have G3 := Lib.hid g3
        clear o3 g3
        go_wp2_with fail
        refine (sample_any z HOKZ.out _ 0 (by decide) (by decide) _ (H2.out.kept G3.out (by simp; omega))).mono ?_
        rintro e w4 ⟨rfl, o4, g4⟩
        have O4 := Lib.hid o4
        have G4 := Lib.hid g4
        clear o4 g4
        have O3' := Lib.hid (O3.out.kept G4.out (by simp; omega))
        have HB' := Lib.hid (below_only (below_only HB.out G3.out (Nat.le_refl _)) G4.out (by omega))
        have zv : (z.sample 0).v = clamp 1 l m := by rw [HZ2.out.2, HLZ.out, HMZ.out]
        have sv : clamp 1 l m ≤ (st.sample (ts k)).v := by have := HGE.out; rw [HL.out, HM.out] at this; exact this
        have hL2 := Lib.hid (show (st.sample (ts k)).l = l from HL.out)
        have hM2 := Lib.hid (show (st.sample (ts k)).m = m from HM.out)
        have hLZ2 := Lib.hid (show (z.sample 0).l = l from HLZ.out)
        have hMZ2 := Lib.hid (show (z.sample 0).m = m from HMZ.out)
        generalize st.sample (ts k) = sn at *
        generalize z.sample 0 = zn at *
        by_cases hc1 : l ≤ 1
        · by_cases hc2 : 1 ≤ m
          · have zv1 : zn.v = 1 := by rw [zv]; unfold clamp; omega
            have Z1 := Lib.hid zv1
            have p1 : (zn.v != 1) = false := by simp [zv1]
            have p2 : zn.v ≤ sn.v := by omega
            have p3 : ¬ sn.v < zn.v := by omega
            clear zv zv1 sv
            go_wp2_with fail
            refine (value_any zn _ _ O4.out).mono ?_
            rintro e x1 ⟨rfl, rfl⟩
            go_wp2_with fail
            refine (value_any sn _ _ O3'.out).mono ?_
            rintro e x2 ⟨rfl, rfl⟩
            go_wp2_with fail
            refine (value_any zn _ _ O4.out).mono ?_
            rintro e x3 ⟨rfl, rfl⟩
            go_wp2_with fail
            go_roundw
            case rel => exact ⟨k + 1, sn, zn, by omega, by go_num, HOK2.out, HOKZ2.out, HZ2.out.1, hL2.out, hM2.out, hLZ2.out, hMZ2.out, O3'.out, O4.out, HB'.out⟩
            case measure => simp [intOf]; omega
          · have hff := HF.out
            unfold fits at hff
            omega
        · have zv1 : zn.v = l := by rw [zv]; unfold clamp; omega
          have p1 : (zn.v != l) = false := by simp [zv1]
          have p2 : zn.v ≤ sn.v := by omega
          have p3 : ¬ sn.v < zn.v := by omega
          clear zv zv1 sv
          go_wp2_with fail
          refine (value_any zn _ _ O4.out).mono ?_
          rintro e x4 ⟨rfl, rfl⟩
          go_wp2_with fail
          refine (value_any sn _ _ O3'.out).mono ?_
          rintro e x5 ⟨rfl, rfl⟩
          go_wp2_with fail
          refine (value_any zn _ _ O4.out).mono ?_
          rintro e x6 ⟨rfl, rfl⟩
          go_wp2_with fail
          go_roundw
          case rel => exact ⟨k + 1, sn, zn, by omega, by go_num, HOK2.out, HOKZ2.out, HZ2.out.1, hL2.out, hM2.out, hLZ2.out, hMZ2.out, O3'.out, O4.out, HB'.out⟩
          case measure => simp [intOf]; omega
    · go_wp2_with (go_at_call 9; refine (works_any _).mono ?_; rintro e w3 ⟨rfl, g3⟩)
      go_ret
      exact ⟨rfl, below_none HB.out g3⟩

theorem rtoLater.walk (W : World) (f : Int) (wf : (Lit.int .i64 f).wf = true) (l : Int) (wl : (Lit.int .i64 l).wf = true) (m : Int) (wm : (Lit.int .i64 m).wf = true) (v : Value) (x : Nat × (Nat → Int)) (ho : Times W v x) :
    Calls Try.prog 6 #[.int .i64 f, .int .i64 l, .int .i64 m, v] W fun e w' => e = .returned (.bool true) ∧ Below W.heap.size W w' := by
  by_cases hf : fits f l m
  · by_cases hn : x.1 ≤ 500
    · exact later_good f l m hf v x _ ho hn
    · obtain ⟨n, ts⟩ := x
      obtain ⟨⟨a, cap, rfl, hcap, hcap2, hsl⟩, hts⟩ := ho
      simp only at hn
      have hn2 : 500 < n := by omega
      clear hsl hts hn
      have HF := Lib.hid hf
      clear hf
      go_enter Try.func6, Try.ntmps6
      go_wp2_with fail
      refine (new_any f l m HF.out _).mono ?_
      rintro e w1 ⟨rfl, o1, g1⟩
      have O1 := Lib.hid o1
      have G1 := Lib.hid g1
      clear o1 g1
      go_wp2_with fail
      refine (new_any f l m HF.out _).mono ?_
      rintro e w2 ⟨rfl, o2, g2⟩
      have O2 := Lib.hid o2
      have G2 := Lib.hid g2
      clear o2 g2
      go_wp2_with (go_at_call 9; refine (works_any _).mono ?_; rintro e w3 ⟨rfl, g3⟩)
      go_ret
      exact ⟨rfl, below_none (below_none (below_none (Below.refl _ _) G1.out) G2.out) g3⟩
  · obtain ⟨n, ts⟩ := x
    obtain ⟨⟨a, cap, rfl, hcap, hcap2, hsl⟩, hts⟩ := ho
    clear hsl hts
    have HF := Lib.hid hf
    clear hf
    go_enter Try.func6, Try.ntmps6
    go_wp2_with fail
    refine (new_any_bad f l m HF.out _).mono ?_
    rintro e x7 ⟨rfl, rfl⟩
    go_wp2_with fail
    refine (new_any_bad f l m HF.out _).mono ?_
    rintro e x8 ⟨rfl, rfl⟩
    go_wp2_with (go_at_call 9; refine (works_any _).mono ?_; rintro e w3 ⟨rfl, g3⟩)
    go_ret
    exact ⟨rfl, below_none (Below.refl _ _) g3⟩

set_option maxRecDepth 100000 in
set_option maxHeartbeats 1000000 in
theorem rtoNil.walk (W : World) (t : Int) (wt : (Lit.int .i64 t).wf = true) :
    Calls Try.prog 8 #[.int .i64 t] W fun e w' => e = .returned (.bool true) ∧ Below W.heap.size W w' := by
  go_enter Try.func8, Try.ntmps8
  go_wp2_with fail
  refine (back_any_nil _).mono ?_
  rintro e x9 ⟨rfl, rfl⟩
  go_wp2_with fail
  refine (smooth_any_nil _).mono ?_
  rintro e x10 ⟨rfl, rfl⟩
  go_wp2_with fail
  refine (value_any_nil _).mono ?_
  rintro e x11 ⟨rfl, rfl⟩
  go_wp2_with fail
  refine (sample_any_nil _ _).mono ?_
  rintro e x12 ⟨rfl, rfl⟩
  go_wp2_with (go_at_call 9; refine (works_any _).mono ?_; rintro e w3 ⟨rfl, g3⟩)
  go_ret
  exact ⟨rfl, below_none (Below.refl _ _) g3⟩
end Go.Proofs.Ytkggggpikebbkaa
