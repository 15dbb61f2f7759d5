/- The walk of RtoPlays. No condition. -/
import Derived.Test.YtkggggpikebbkaaRtoWorks
namespace Go.Proofs.Ytkggggpikebbkaa
open Go.RowKit Go.ChangeShapes Go.WideShapes Go.Deep
set_option linter.unusedVariables false
set_option linter.unusedSimpArgs false

/-- What holds at every round's head: both estimators hold the same fields. -/
def PRel (W : World) (b1 b2 n : Nat) (i : Value) (wr : World) : Prop :=
  ∃ (k : Nat) (st : RS), k ≤ n ∧ i = .int .i64 (k : Int) ∧ st.ok ∧ obj wr b1 45 st.cells ∧ obj wr b2 47 st.cells ∧ Below W.heap.size W wr

set_option maxRecDepth 100000 in
set_option maxHeartbeats 4000000 in
theorem plays_good (f l m : Int) (hf : fits f l m) (v : Value) (x : Nat × (Nat → Bool) × (Nat → Int)) (W : World) (ho : Ops W v x) (hn : x.1 ≤ 500) :
    Calls Try.prog 3 #[.int .i64 f, .int .i64 l, .int .i64 m, v] W fun e w' => e = .returned (.bool true) ∧ Below W.heap.size W w' := by
  obtain ⟨n, bk, ts⟩ := x
  obtain ⟨⟨a, cap, rfl, hcap, hcap2, hsl⟩, hts⟩ := ho
  simp only at hn hts hsl hcap
  have HSL := Lib.hid hsl
  have HTS := Lib.hid hts
  clear hsl hts
  go_enter Try.func3, Try.ntmps3
  go_wp2_with fail
  refine (new_any f l m hf _).mono ?_
  rintro e w1 ⟨rfl, o1, g1⟩
  have O1 := Lib.hid o1
  have G1 := Lib.hid g1
  clear o1 g1
  go_wp2_with fail
  refine (new_ref f l m hf _).mono ?_
  rintro e w2 ⟨rfl, o2, g2⟩
  have O2 := Lib.hid o2
  have G2 := Lib.hid g2
  clear o2 g2
  go_wp2_with fail
  have hlt1 := O1.out.lt
  have hsz1 := G1.out.size
  go_loopw [13] (fun i wr => PRel W W.heap.size w1.heap.size n i wr) (fun i _ => n - (intOf i).toNat)
  case atStart =>
    exact ⟨0, RS.init f l m, Nat.zero_le _, rfl, ok_init hf, O1.out.kept G2.out (by simp), O2.out, below_none (below_none (Below.refl _ _) G1.out) G2.out⟩
  case round =>
    obtain ⟨k, st, hk, rfl, hok, h1, h2, hbel⟩ := hrel
    have HOK := Lib.hid hok
    have H1 := Lib.hid h1
    have H2 := Lib.hid h2
    have HB := Lib.hid hbel
    clear hok h1 h2 hbel
    have hne : W.heap.size ≠ w1.heap.size := by omega
    by_cases hlt : k < n
    · rcases HSL.out with h0 | ⟨b, off, rfl, hb, hc⟩
      · omega
      have hc0 := hc k 0 hlt (by decide)
      have hc1 := hc k 1 hlt (by decide)
      have hr0 := sl_cell hc0 hb HB.out
      have hr1 := sl_cell hc1 hb HB.out
      simp only [Nat.add_zero] at hr0 hr1
      simp at hr0 hr1
      have ht := HTS.out k hlt
      have hbne : b ≠ W.heap.size := by omega
      have hbne2 : b ≠ w1.heap.size := by omega
      cases hbk : bk k
      · rw [hbk] at hr0
        clear hc hc0 hc1 hbk
        by_cases hneg : ts k < 0
        · go_wp2_with fail
          go_region_held3 (fun w' => w'.cell? ⟨b, off + k * 2 + 1, none⟩ = some (.int .i64 (ts k))) (first | (simp [go_sem, *]; done) | assumption) (first
            | (go_at_call 14; refine (sample_any_neg _ _ hneg _).mono ?_; rintro e w3 ⟨rfl, rfl⟩)
            | (go_at_call 15; refine (sample_ref_neg _ _ hneg _).mono ?_; rintro e w3 ⟨rfl, rfl⟩))
          go_wp2_with fail
          refine (smooth_any st HOK.out _ _ H1.out.drew).mono ?_
          rintro e w5 ⟨rfl, rfl⟩
          go_wp2_with fail
          refine (smooth_ref st HOK.out _ _ H2.out.drew).mono ?_
          rintro e w5 ⟨rfl, rfl⟩
          go_wp2_with fail
          refine (value_any st _ _ H1.out.drew).mono ?_
          rintro e w5 ⟨rfl, rfl⟩
          go_wp2_with fail
          refine (value_ref st _ _ H2.out.drew).mono ?_
          rintro e w5 ⟨rfl, rfl⟩
          go_wp2_with fail
          go_roundw
          case rel => exact ⟨k + 1, st, by omega, by go_num, HOK.out, H1.out.drew, H2.out.drew, HB.out.drew⟩
          case measure => simp [intOf]; omega
        · have hpos : 0 ≤ ts k := by omega
          have HOK2 := Lib.hid (ok_sample HOK.out hpos)
          go_wp2_with fail
          go_region_held3 (fun w' => w'.cell? ⟨b, off + k * 2 + 1, none⟩ = some (.int .i64 (ts k))) (first | (simp [go_sem, *]; done) | assumption) (first
            | (go_at_call 14; refine (sample_any st HOK.out _ _ hpos ht.2 _ (by exact H1.out.drew)).mono ?_; rintro e w3 ⟨rfl, o3, g3⟩; have q3 := only_cell g3 (by exact hr1) hbne; have O3 := Lib.hid o3; have G3 := Lib.hid g3; clear o3 g3)
            | (go_at_call 15; refine (sample_ref st HOK.out _ _ hpos ht.2 _ (by exact H2.out.drew.kept G3.out (by simp; omega))).mono ?_; rintro e w4 ⟨rfl, o4, g4⟩; have q4 := only_cell g4 q3 hbne2; have O4 := Lib.hid o4; have G4 := Lib.hid g4; clear o4 g4))
          have O3' := Lib.hid (O3.out.kept G4.out (by simp; omega))
          have HB' := Lib.hid (below_only (below_only HB.out.drew G3.out (Nat.le_refl _)) G4.out (by omega))
          go_wp2_with fail
          refine (smooth_any (st.sample (ts k)) HOK2.out _ _ O3'.out).mono ?_
          rintro e w5 ⟨rfl, rfl⟩
          go_wp2_with fail
          refine (smooth_ref (st.sample (ts k)) HOK2.out _ _ O4.out).mono ?_
          rintro e w5 ⟨rfl, rfl⟩
          go_wp2_with fail
          refine (value_any (st.sample (ts k)) _ _ O3'.out).mono ?_
          rintro e w5 ⟨rfl, rfl⟩
          go_wp2_with fail
          refine (value_ref (st.sample (ts k)) _ _ O4.out).mono ?_
          rintro e w5 ⟨rfl, rfl⟩
          go_wp2_with fail
          go_roundw
          case rel => exact ⟨k + 1, (st.sample (ts k)), by omega, by go_num, HOK2.out, O3'.out, O4.out, HB'.out⟩
          case measure => simp [intOf]; omega
      · rw [hbk] at hr0
        clear hc hc0 hc1 hbk
        have HOK2 := Lib.hid (ok_back HOK.out)
        · go_wp2_with fail
          refine (back_any st HOK.out _ _ H1.out).mono ?_
          rintro e w3 ⟨rfl, o3, g3⟩
          have O3 := Lib.hid o3
          have G3 := Lib.hid g3
          clear o3 g3
          go_wp2_with fail
          refine (back_ref st HOK.out _ _ (H2.out.kept G3.out (by simp; omega))).mono ?_
          rintro e w4 ⟨rfl, o4, g4⟩
          have O4 := Lib.hid o4
          have G4 := Lib.hid g4
          clear o4 g4
          have O3' := Lib.hid (O3.out.kept G4.out (by simp; omega))
          have HB' := Lib.hid (below_only (below_only HB.out G3.out (Nat.le_refl _)) G4.out (by omega))
          go_wp2_with fail
          refine (smooth_any st.back HOK2.out _ _ O3'.out).mono ?_
          rintro e w5 ⟨rfl, rfl⟩
          go_wp2_with fail
          refine (smooth_ref st.back HOK2.out _ _ O4.out).mono ?_
          rintro e w5 ⟨rfl, rfl⟩
          go_wp2_with fail
          refine (value_any st.back _ _ O3'.out).mono ?_
          rintro e w5 ⟨rfl, rfl⟩
          go_wp2_with fail
          refine (value_ref st.back _ _ O4.out).mono ?_
          rintro e w5 ⟨rfl, rfl⟩
          go_wp2_with fail
          go_roundw
          case rel => exact ⟨k + 1, st.back, by omega, by go_num, HOK2.out, O3'.out, O4.out, HB'.out⟩
          case measure => simp [intOf]; omega
    · go_wp2_with (go_at_call 9; refine (works_any _).mono ?_; rintro e w3 ⟨rfl, g3⟩)
      go_ret
      exact ⟨rfl, below_none HB.out g3⟩

set_option maxRecDepth 100000 in
set_option maxHeartbeats 4000000 in
theorem plays_bad (f l m : Int) (hf : ¬ fits f l m) (v : Value) (x : Nat × (Nat → Bool) × (Nat → Int)) (W : World) (ho : Ops W v x) (hn : x.1 ≤ 500) :
    Calls Try.prog 3 #[.int .i64 f, .int .i64 l, .int .i64 m, v] W fun e w' => e = .returned (.bool true) ∧ Below W.heap.size W w' := by
  obtain ⟨n, bk, ts⟩ := x
  obtain ⟨⟨a, cap, rfl, hcap, hcap2, hsl⟩, hts⟩ := ho
  simp only at hn hts hsl hcap
  have HSL := Lib.hid hsl
  have HTS := Lib.hid hts
  clear hsl hts
  go_enter Try.func3, Try.ntmps3
  go_wp2_with fail
  refine (new_any_bad f l m hf _).mono ?_
  rintro e w1 ⟨rfl, rfl⟩
  go_wp2_with fail
  refine (new_ref_bad f l m hf _).mono ?_
  rintro e w2 ⟨rfl, rfl⟩
  go_wp2_with fail
  go_loopw [13] (fun i wr => ∃ k : Nat, k ≤ n ∧ i = .int .i64 (k : Int) ∧ Below W.heap.size W wr) (fun i _ => n - (intOf i).toNat)
  case atStart => exact ⟨0, Nat.zero_le _, rfl, Below.refl _ _⟩
  case round =>
    obtain ⟨k, hk, rfl, hbel⟩ := hrel
    have HB := Lib.hid hbel
    clear hbel
    by_cases hlt : k < n
    · rcases HSL.out with h0 | ⟨b, off, rfl, hb, hc⟩
      · omega
      have hc0 := hc k 0 hlt (by decide)
      have hc1 := hc k 1 hlt (by decide)
      have hr0 := sl_cell hc0 hb HB.out
      have hr1 := sl_cell hc1 hb HB.out
      simp only [Nat.add_zero] at hr0 hr1
      simp at hr0 hr1
      have ht := HTS.out k hlt
      cases hbk : bk k
      · rw [hbk] at hr0
        clear hc hc0 hc1 hbk
        go_wp2_with fail
        go_region_held3 (fun w' => w'.cell? ⟨b, off + k * 2 + 1, none⟩ = some (.int .i64 (ts k))) (first | (simp [go_sem, *]; done) | assumption) (first
            | (go_at_call 14; refine (sample_any_nil _ _).mono ?_; rintro e w3 ⟨rfl, rfl⟩)
            | (go_at_call 15; refine (sample_ref_nil _ _).mono ?_; rintro e w3 ⟨rfl, rfl⟩))
        go_wp2_with (first | (go_at_call 16; refine (smooth_any_nil _).mono ?_; rintro e w3 ⟨rfl, rfl⟩) | (go_at_call 17; refine (smooth_ref_nil _).mono ?_; rintro e w3 ⟨rfl, rfl⟩) | (go_at_call 18; refine (value_any_nil _).mono ?_; rintro e w3 ⟨rfl, rfl⟩) | (go_at_call 19; refine (value_ref_nil _).mono ?_; rintro e w3 ⟨rfl, rfl⟩))
        go_roundw
        case rel => exact ⟨k + 1, by omega, by go_num, HB.out.drew⟩
        case measure => simp [intOf]; omega
      · rw [hbk] at hr0
        clear hc hc0 hc1 hbk
        go_wp2_with (first | (go_at_call 12; refine (back_any_nil _).mono ?_; rintro e w3 ⟨rfl, rfl⟩) | (go_at_call 13; refine (back_ref_nil _).mono ?_; rintro e w3 ⟨rfl, rfl⟩) | (go_at_call 16; refine (smooth_any_nil _).mono ?_; rintro e w3 ⟨rfl, rfl⟩) | (go_at_call 17; refine (smooth_ref_nil _).mono ?_; rintro e w3 ⟨rfl, rfl⟩) | (go_at_call 18; refine (value_any_nil _).mono ?_; rintro e w3 ⟨rfl, rfl⟩) | (go_at_call 19; refine (value_ref_nil _).mono ?_; rintro e w3 ⟨rfl, rfl⟩))
        go_roundw
        case rel => exact ⟨k + 1, by omega, by go_num, HB.out⟩
        case measure => simp [intOf]; omega
    · go_wp2_with (go_at_call 9; refine (works_any _).mono ?_; rintro e w3 ⟨rfl, g3⟩)
      go_ret
      exact ⟨rfl, below_none HB.out g3⟩

/-- A list of things done that came in. -/
theorem opened22 {H : Type} {enc : TypeId × Value → H} {W : World} {r : Reach} {base : Nat} {v : Value} {d : DataW H} {p : List MemPlace}
    (hv : Value.okWide Try.prog W r base 22 v) (h : DataW.Trod enc Try.prog W 0 (fun _ => true) true 22 v d p) : ∃ x, Ops W v x := by
  obtain ⟨n, V, hsl, hV⟩ := openSl 2 Try.underlying22 Try.underlying32 (by kernel_rfl) (by kernel_rfl) rfl (by decide) hv h
  have e0 : ∀ i, i < n → ∃ c : Bool, V i 0 = .bool c := fun i hi => by
    obtain ⟨m, y, hy⟩ := hV i hi 0 _ rfl
    exact trod_bool1 Try.underlying4 hy
  have e1 : ∀ i, i < n → ∃ c : Int, V i 1 = .int .i64 c ∧ (Lit.int .i64 c).wf = true := fun i hi => by
    obtain ⟨m, y, hy⟩ := hV i hi 1 _ rfl
    exact trod_int1 Try.underlying2 hy
  obtain ⟨bk, hbk⟩ := choose_lt e0
  obtain ⟨ts, hts⟩ := choose_lt e1
  refine ⟨(n, bk, ts), isSl_congr hsl fun i j hi hj => ?_, fun i hi => bounds_i64 (hts i hi).2⟩
  have : j = 0 ∨ j = 1 := by omega
  rcases this with rfl | rfl
  · rw [hbk i hi]; rfl
  · rw [(hts i hi).1]; rfl

theorem rtoPlays.walk (W : World) (f : Int) (wf : (Lit.int .i64 f).wf = true) (l : Int) (wl : (Lit.int .i64 l).wf = true) (m : Int) (wm : (Lit.int .i64 m).wf = true) (v : Value) (x : Nat × (Nat → Bool) × (Nat → Int)) (ho : Ops W v x) :
    Calls Try.prog 3 #[.int .i64 f, .int .i64 l, .int .i64 m, v] W fun e w' => e = .returned (.bool true) ∧ Below W.heap.size W w' := by
  by_cases hn : x.1 ≤ 500
  · by_cases hf : fits f l m
    · exact plays_good f l m hf v x _ ho hn
    · exact plays_bad f l m hf v x _ ho hn
  · obtain ⟨n, bk, ts⟩ := x
    obtain ⟨⟨a, cap, rfl, hcap, hcap2, hsl⟩, hts⟩ := ho
    simp only at hn
    have hn2 : 500 < n := by omega
    clear hsl hts hn
    go_enter Try.func3, Try.ntmps3
    go_wp2_with (go_at_call 9; refine (works_any _).mono ?_; rintro e w3 ⟨rfl, g3⟩)
    go_ret
    exact ⟨rfl, below_none (Below.refl _ _) g3⟩
end Go.Proofs.Ytkggggpikebbkaa
