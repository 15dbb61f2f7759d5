/- The walk of RingApart. No condition. -/
import Derived.Test.YtplbgfjemcpcpaaRingWorks
import Derived.Test.YtplbgfjemcpcpaaRingHeldU
import Derived.Deep.LoopGhost
namespace Go.Proofs.Ytplbgfjemcpcpaa
open Go.RowKit Go.Conc Go.ChangeShapes Go.WideShapes Go.Deep
set_option linter.unusedVariables false
set_option linter.unusedSimpArgs false

/-- Numbers that came in. -/
def U32s (W : World) (v : Value) (x : Nat × (Nat → Int)) : Prop :=
  IsSl W v x.1 1 (fun i _ => .int .u32 (x.2 i)) ∧ ∀ i, i < x.1 → 0 ≤ x.2 i ∧ x.2 i ≤ 4294967295
theorem opened22 {H : Type} {enc : TypeId × Value → H} {W : World} {r : Reach} {base : Nat} {v : Value} {d : DataW H} {p : List MemPlace}
    (hv : Value.okWide Try.prog W r base 22 v) (h : DataW.Trod enc Try.prog W 0 (fun _ => true) true 22 v d p) : ∃ x, U32s W v x := by
  obtain ⟨n, V, hsl, hV⟩ := openSl1 Try.underlying22 (by kernel_rfl) hv h
  have e1 : ∀ i, i < n → ∃ c : Int, V i 0 = .int .u32 c ∧ (Lit.int .u32 c).wf = true := fun i hi => by
    obtain ⟨m, y, hy⟩ := hV i hi
    exact trod_int1 Try.underlying29 hy
  obtain ⟨ts, hts⟩ := choose_lt e1
  refine ⟨(n, ts), isSl_congr hsl fun i j hi hj => ?_, fun i hi => bounds_u32 (hts i hi).2⟩
  have : j = 0 := by omega
  subst this
  rw [(hts i hi).1]

/-- The first i of n numbers. -/
def firsts (f : Nat → Int) (n i : Nat) : List Int := (List.range (min i n)).map f
theorem firsts_more (f : Nat → Int) (n i : Nat) (h : i < n) : firsts f n (i + 1) = firsts f n i ++ [f i] := by
  unfold firsts
  rw [show min (i + 1) n = min i n + 1 by omega, List.range_succ, List.map_append, show min i n = i by omega]
  rfl
theorem firsts_same (f : Nat → Int) (n i : Nat) (h : ¬ i < n) : firsts f n (i + 1) = firsts f n i := by
  unfold firsts
  rw [show min (i + 1) n = min i n by omega]
theorem firsts_len (f : Nat → Int) (n i : Nat) : (firsts f n i).length = min i n := by unfold firsts; simp
theorem firsts_drop (f : Nat → Int) (n i : Nat) (h : i < n) : (firsts f n n).drop i = f i :: (firsts f n n).drop (i + 1) := by
  rw [List.drop_eq_getElem_cons (by rw [firsts_len]; omega)]
  simp [firsts]
def ARel1 (W : World) (a b n m : Nat) (f g : Nat → Int) (i : Value) (wr : World) : Prop := ∃ k : Nat, k ≤ max n m ∧ i = .int .i64 (k : Int) ∧ both W wr a b 301 301 (firsts f n k) (firsts g m k)
def ARel2 (W : World) (a b : Nat) (A : List Int) (k : Nat) (wr : World) : Prop := ∃ B : List Int, B.length = k ∧ both W wr a b 301 301 A B
def ARel3 (W : World) (a b n : Nat) (A : List Int) (i : Value) (wr : World) : Prop := ∃ k : Nat, k ≤ n ∧ i = .int .i64 (k : Int) ∧ both W wr a b 301 301 (A.drop k) []

set_option maxRecDepth 100000 in
set_option maxHeartbeats 16000000 in
theorem apart_good (v1 v2 : Value) (x1 x2 : Nat × (Nat → Int)) (W : World) (ho1 : U32s W v1 x1) (ho2 : U32s W v2 x2) (hn1 : x1.1 ≤ 300) (hn2 : x2.1 ≤ 300) :
    Calls Try.prog 5 #[v1, v2] W fun e w' => e = .returned (.bool true) ∧ Below W.heap.size W w' := by
  obtain ⟨n, f⟩ := x1
  obtain ⟨m, g⟩ := x2
  obtain ⟨⟨a1, cap1, rfl, hcap1, hcap1', hsl1⟩, hts1⟩ := ho1
  obtain ⟨⟨a2, cap2, rfl, hcap2, hcap2', hsl2⟩, hts2⟩ := ho2
  simp only at hn1 hn2 hsl1 hsl2 hcap1 hcap2
  have S1 := Lib.hid hsl1
  have S2 := Lib.hid hsl2
  clear hsl1 hsl2 hts1 hts2
  go_enter Try.func5, Try.ntmps5
  go_wp2_with fail
  refine (hnewU W W (Below.refl _ _) 301 (by decide)).mono ?_
  rintro e w1 ⟨rfl, h1, l1⟩
  have H1 := Lib.hid h1
  clear h1
  go_wp2_with fail
  refine (bnew H1.out 301 (by decide)).mono ?_
  rintro e w2 ⟨rfl, h2⟩
  have H2 := Lib.hid h2
  clear h2
  generalize W.heap.size + 1 = a at H1 H2 l1 ⊢
  generalize w1.heap.size + 1 = b at H2 ⊢
  go_wp2_with fail
  go_loopw [9] (fun i wr => ARel1 W a b n m f g i wr) (fun i _ => max n m - (intOf i).toNat)
  case atStart => exact ⟨0, Nat.zero_le _, rfl, by simpa [firsts] using H2.out⟩
  case round =>
    obtain ⟨k, hk, rfl, h3⟩ := hrel
    have H3 := Lib.hid h3
    clear h3
    by_cases hnm : n < m
    all_goals by_cases hkn : k < n
    all_goals by_cases hkm : k < m
    all_goals try omega
    · rcases S1.out with h0 | ⟨b1, o1, rfl, hb1, hc1⟩
      · omega
      rcases S2.out with h0 | ⟨b2, o2, rfl, hb2, hc2⟩
      · omega
      have r1 := sl_cell (hc1 k 0 hkn (by decide)) hb1 H3.out.below
      simp at r1
      clear hc1
      go_wp2_with fail
      refine (bpush H3.out (f k) (by rw [firsts_len]; omega)).mono ?_
      rintro e w4 ⟨rfl, h4⟩
      have H4 := Lib.hid h4.turn
      have r2 := sl_cell (hc2 k 0 hkm (by decide)) hb2 h4.below
      simp at r2
      clear h4 hc2 r1
      go_wp2_with fail
      refine (bpush H4.out (g k) (by rw [firsts_len]; omega)).mono ?_
      rintro e w5 ⟨rfl, h5⟩
      have H5 := Lib.hid h5.turn
      clear h5 r2
      go_wp2_with fail
      go_roundw
      case rel => exact ⟨k + 1, by omega, by go_num, by rw [firsts_more f n k hkn, firsts_more g m k hkm]; exact H5.out⟩
      case measure => simp [intOf]; omega
    · rcases S2.out with h0 | ⟨b2, o2, rfl, hb2, hc2⟩
      · omega
      have r2 := sl_cell (hc2 k 0 hkm (by decide)) hb2 H3.out.below
      simp at r2
      clear hc2
      go_wp2_with fail
      refine (bpush H3.out.turn (g k) (by rw [firsts_len]; omega)).mono ?_
      rintro e w5 ⟨rfl, h5⟩
      have H5 := Lib.hid h5.turn
      clear h5 r2
      go_wp2_with fail
      go_roundw
      case rel => exact ⟨k + 1, by omega, by go_num, by rw [firsts_same f n k hkn, firsts_more g m k hkm]; exact H5.out⟩
      case measure => simp [intOf]; omega
    · have hkk : k = max n m := by omega
      have EA := Lib.hid (show firsts f n k = firsts f n n by unfold firsts; rw [show min k n = n by omega, Nat.min_self])
      have H4 := Lib.hid (show both W wr a b 301 301 (firsts f n n) (firsts g m k) by rw [← EA.out]; exact H3.out)
      clear hkk
      go_wp2_with fail
      go_loopg [10] (firsts g m k).length (fun q _ wr => ARel2 W a b (firsts f n n) q wr)
      case atStart => exact ⟨_, rfl, H4.out⟩
      case round =>
        obtain ⟨B, hB, h5⟩ := hrel
        have H5 := Lib.hid h5.turn
        have HBL := Lib.hid hB
        clear h5 hB
        cases B with
        | nil =>
          have l0 : ((([] : List Int).length : Nat) : Int) = 0 := rfl
          go_wp2_with fail
          refine (blen H5.out).mono ?_
          rintro e w9 ⟨rfl, rfl⟩
          go_wp2_with fail
          go_loopw [11] (fun i wr => ARel3 W a b n (firsts f n n) i wr) (fun i _ => n - (intOf i).toNat)
          case atStart => exact ⟨0, Nat.zero_le _, rfl, H5.out.turn⟩
          case round =>
            obtain ⟨j, hj, rfl, h6⟩ := hrel
            have H6 := Lib.hid h6
            clear h6
            by_cases hlt : j < n
            · rcases S1.out with h0 | ⟨b1, o1, rfl, hb1, hc1⟩
              · omega
              have H7 := H6.out
              rw [firsts_drop f n j hlt] at H7
              have H8 := Lib.hid H7
              clear H7
              have e1 : (f j != f j) = false := by simp
              go_wp2_with fail
              refine (bpop H8.out).mono ?_
              rintro e w7 ⟨rfl, h7⟩
              have r1 := sl_cell (hc1 j 0 hlt (by decide)) hb1 h7.below
              simp at r1
              have H9 := Lib.hid h7
              clear h7 hc1
              go_wp2_with fail
              go_roundw
              case rel => exact ⟨j + 1, by omega, by go_num, H9.out⟩
              case measure => simp [intOf]; omega
            · have e0 := firsts_len f n n
              have E0 := Lib.hid (show (((firsts f n n).drop j).length : Int) = 0 by simp [e0]; omega)
              clear e0
              go_wp2_with fail
              refine (blen H6.out).mono ?_
              rintro e w9 ⟨rfl, rfl⟩
              rw [E0.out]
              go_wp2_with (go_at_call 10; refine (works_any _).mono ?_; rintro e w9 ⟨rfl, g9⟩)
              go_ret
              exact ⟨rfl, below_works H6.out.below g9⟩
        | cons x B =>
          obtain ⟨q1, hq1⟩ : ∃ q1 : Int, (((x :: B).length : Nat) : Int) = q1 := ⟨_, rfl⟩
          have Q2 := Lib.hid (show (B.length : Int) = q1 - 1 by rw [← hq1]; simp)
          have l1 : (0 : Int) < q1 := by rw [← hq1]; simp
          have l2 : q1 ≤ 301 := by have hb := H5.out.bound; rw [← hq1]; omega
          have Q1 := Lib.hid hq1
          clear hq1
          go_wp2_with fail
          refine (blen H5.out).mono ?_
          rintro e w9 ⟨rfl, rfl⟩
          rw [Q1.out]
          go_wp2_with fail
          refine (blen H5.out).mono ?_
          rintro e w9 ⟨rfl, rfl⟩
          rw [Q1.out]
          go_wp2_with fail
          refine (bpop H5.out).mono ?_
          rintro e w6 ⟨rfl, h6⟩
          have H6 := Lib.hid h6
          clear h6
          go_wp2_with fail
          refine (blen H6.out).mono ?_
          rintro e w9 ⟨rfl, rfl⟩
          rw [Q2.out]
          have e1 : (q1 - 1 != q1 - 1) = false := by simp
          go_wp2_with fail
          go_roundg B.length
          case measure => have := HBL.out; simp at this; omega
          case rel => exact ⟨B, rfl, H6.out.turn⟩
    · rcases S1.out with h0 | ⟨b1, o1, rfl, hb1, hc1⟩
      · omega
      rcases S2.out with h0 | ⟨b2, o2, rfl, hb2, hc2⟩
      · omega
      have r1 := sl_cell (hc1 k 0 hkn (by decide)) hb1 H3.out.below
      simp at r1
      clear hc1
      go_wp2_with fail
      refine (bpush H3.out (f k) (by rw [firsts_len]; omega)).mono ?_
      rintro e w4 ⟨rfl, h4⟩
      have H4 := Lib.hid h4.turn
      have r2 := sl_cell (hc2 k 0 hkm (by decide)) hb2 h4.below
      simp at r2
      clear h4 hc2 r1
      go_wp2_with fail
      refine (bpush H4.out (g k) (by rw [firsts_len]; omega)).mono ?_
      rintro e w5 ⟨rfl, h5⟩
      have H5 := Lib.hid h5.turn
      clear h5 r2
      go_wp2_with fail
      go_roundw
      case rel => exact ⟨k + 1, by omega, by go_num, by rw [firsts_more f n k hkn, firsts_more g m k hkm]; exact H5.out⟩
      case measure => simp [intOf]; omega
    · rcases S1.out with h0 | ⟨b1, o1, rfl, hb1, hc1⟩
      · omega
      have r1 := sl_cell (hc1 k 0 hkn (by decide)) hb1 H3.out.below
      simp at r1
      clear hc1
      go_wp2_with fail
      refine (bpush H3.out (f k) (by rw [firsts_len]; omega)).mono ?_
      rintro e w4 ⟨rfl, h4⟩
      have H4 := Lib.hid h4
      clear h4 r1
      go_wp2_with fail
      go_roundw
      case rel => exact ⟨k + 1, by omega, by go_num, by rw [firsts_more f n k hkn, firsts_same g m k hkm]; exact H4.out⟩
      case measure => simp [intOf]; omega
    · have hkk : k = max n m := by omega
      have EA := Lib.hid (show firsts f n k = firsts f n n by unfold firsts; rw [show min k n = n by omega, Nat.min_self])
      have H4 := Lib.hid (show both W wr a b 301 301 (firsts f n n) (firsts g m k) by rw [← EA.out]; exact H3.out)
      clear hkk
      go_wp2_with fail
      go_loopg [10] (firsts g m k).length (fun q _ wr => ARel2 W a b (firsts f n n) q wr)
      case atStart => exact ⟨_, rfl, H4.out⟩
      case round =>
        obtain ⟨B, hB, h5⟩ := hrel
        have H5 := Lib.hid h5.turn
        have HBL := Lib.hid hB
        clear h5 hB
        cases B with
        | nil =>
          have l0 : ((([] : List Int).length : Nat) : Int) = 0 := rfl
          go_wp2_with fail
          refine (blen H5.out).mono ?_
          rintro e w9 ⟨rfl, rfl⟩
          go_wp2_with fail
          go_loopw [11] (fun i wr => ARel3 W a b n (firsts f n n) i wr) (fun i _ => n - (intOf i).toNat)
          case atStart => exact ⟨0, Nat.zero_le _, rfl, H5.out.turn⟩
          case round =>
            obtain ⟨j, hj, rfl, h6⟩ := hrel
            have H6 := Lib.hid h6
            clear h6
            by_cases hlt : j < n
            · rcases S1.out with h0 | ⟨b1, o1, rfl, hb1, hc1⟩
              · omega
              have H7 := H6.out
              rw [firsts_drop f n j hlt] at H7
              have H8 := Lib.hid H7
              clear H7
              have e1 : (f j != f j) = false := by simp
              go_wp2_with fail
              refine (bpop H8.out).mono ?_
              rintro e w7 ⟨rfl, h7⟩
              have r1 := sl_cell (hc1 j 0 hlt (by decide)) hb1 h7.below
              simp at r1
              have H9 := Lib.hid h7
              clear h7 hc1
              go_wp2_with fail
              go_roundw
              case rel => exact ⟨j + 1, by omega, by go_num, H9.out⟩
              case measure => simp [intOf]; omega
            · have e0 := firsts_len f n n
              have E0 := Lib.hid (show (((firsts f n n).drop j).length : Int) = 0 by simp [e0]; omega)
              clear e0
              go_wp2_with fail
              refine (blen H6.out).mono ?_
              rintro e w9 ⟨rfl, rfl⟩
              rw [E0.out]
              go_wp2_with (go_at_call 10; refine (works_any _).mono ?_; rintro e w9 ⟨rfl, g9⟩)
              go_ret
              exact ⟨rfl, below_works H6.out.below g9⟩
        | cons x B =>
          obtain ⟨q1, hq1⟩ : ∃ q1 : Int, (((x :: B).length : Nat) : Int) = q1 := ⟨_, rfl⟩
          have Q2 := Lib.hid (show (B.length : Int) = q1 - 1 by rw [← hq1]; simp)
          have l1 : (0 : Int) < q1 := by rw [← hq1]; simp
          have l2 : q1 ≤ 301 := by have hb := H5.out.bound; rw [← hq1]; omega
          have Q1 := Lib.hid hq1
          clear hq1
          go_wp2_with fail
          refine (blen H5.out).mono ?_
          rintro e w9 ⟨rfl, rfl⟩
          rw [Q1.out]
          go_wp2_with fail
          refine (blen H5.out).mono ?_
          rintro e w9 ⟨rfl, rfl⟩
          rw [Q1.out]
          go_wp2_with fail
          refine (bpop H5.out).mono ?_
          rintro e w6 ⟨rfl, h6⟩
          have H6 := Lib.hid h6
          clear h6
          go_wp2_with fail
          refine (blen H6.out).mono ?_
          rintro e w9 ⟨rfl, rfl⟩
          rw [Q2.out]
          have e1 : (q1 - 1 != q1 - 1) = false := by simp
          go_wp2_with fail
          go_roundg B.length
          case measure => have := HBL.out; simp at this; omega
          case rel => exact ⟨B, rfl, H6.out.turn⟩

theorem ringApart.walk (W : World) (v1 : Value) (x1 : Nat × (Nat → Int)) (ho1 : U32s W v1 x1) (v2 : Value) (x2 : Nat × (Nat → Int)) (ho2 : U32s W v2 x2) :
    Calls Try.prog 5 #[v1, v2] W fun e w' => e = .returned (.bool true) ∧ Below W.heap.size W w' := by
  by_cases hn1 : x1.1 ≤ 300
  · by_cases hn2 : x2.1 ≤ 300
    · exact apart_good v1 v2 x1 x2 W ho1 ho2 hn1 hn2
    · obtain ⟨n, f⟩ := x1
      obtain ⟨m, g⟩ := x2
      obtain ⟨⟨a1, cap1, rfl, hcap1, hcap1', hsl1⟩, hts1⟩ := ho1
      obtain ⟨⟨a2, cap2, rfl, hcap2, hcap2', hsl2⟩, hts2⟩ := ho2
      simp only at hn1 hn2
      have hn3 : 300 < m := by omega
      clear hsl1 hsl2 hts1 hts2 hn2
      go_enter Try.func5, Try.ntmps5
      go_wp2_with (go_at_call 10; refine (works_any _).mono ?_; rintro e w9 ⟨rfl, g9⟩)
      go_ret
      exact ⟨rfl, g9⟩
  · obtain ⟨n, f⟩ := x1
    obtain ⟨m, g⟩ := x2
    obtain ⟨⟨a1, cap1, rfl, hcap1, hcap1', hsl1⟩, hts1⟩ := ho1
    obtain ⟨⟨a2, cap2, rfl, hcap2, hcap2', hsl2⟩, hts2⟩ := ho2
    simp only at hn1
    have hn3 : 300 < n := by omega
    clear hsl1 hsl2 hts1 hts2 hn1
    go_enter Try.func5, Try.ntmps5
    go_wp2_with (go_at_call 10; refine (works_any _).mono ?_; rintro e w9 ⟨rfl, g9⟩)
    go_ret
    exact ⟨rfl, g9⟩
end Go.Proofs.Ytplbgfjemcpcpaa
