/- The walk of RingPlaces. No condition. -/
import Derived.Test.YtplbgfjemcpcpaaRingWorks
import Derived.Test.YtplbgfjemcpcpaaRingK
namespace Go.Proofs.Ytplbgfjemcpcpaa
open Go.RowKit Go.Conc Go.ChangeShapes Go.WideShapes Go.Deep
set_option linter.unusedVariables false
set_option linter.unusedSimpArgs false

/-- Pairs that came in. -/
def Skips (W : World) (v : Value) (x : Nat × (Nat → Int × Int)) : Prop :=
  IsSl W v x.1 2 (fun i j => if j = 0 then .int .u16 (x.2 i).1 else .int .u16 (x.2 i).2)
theorem opened35 {H : Type} {enc : TypeId × Value → H} {W : World} {r : Reach} {base : Nat} {v : Value} {d : DataW H} {p : List MemPlace}
    (hv : Value.okWide Try.prog W r base 35 v) (h : DataW.Trod enc Try.prog W 0 (fun _ => true) true 35 v d p) : ∃ x, Skips W v x := by
  obtain ⟨n, V, hsl, hV⟩ := openSl 2 Try.underlying35 Try.underlying41 (by kernel_rfl) (by kernel_rfl) rfl (by decide) hv h
  have e0 : ∀ i, i < n → ∃ c : Int, V i 0 = .int .u16 c ∧ (Lit.int .u16 c).wf = true := fun i hi => by
    obtain ⟨m, y, hy⟩ := hV i hi 0 _ rfl
    exact trod_int1 Try.underlying39 hy
  have e1 : ∀ i, i < n → ∃ c : Int, V i 1 = .int .u16 c ∧ (Lit.int .u16 c).wf = true := fun i hi => by
    obtain ⟨m, y, hy⟩ := hV i hi 1 _ rfl
    exact trod_int1 Try.underlying39 hy
  obtain ⟨f0, h0⟩ := choose_lt e0
  obtain ⟨f1, h1⟩ := choose_lt e1
  refine ⟨(n, fun i => (f0 i, f1 i)), isSl_congr hsl fun i j hi hj => ?_⟩
  have : j = 0 ∨ j = 1 := by omega
  rcases this with rfl | rfl
  · rw [(h0 i hi).1]; rfl
  · rw [(h1 i hi).1]; rfl

def heldK (W w : World) (b most : Nat) (Q : List (Int × Int)) : Prop := ∃ F, ringK w b F most Q ∧ (∀ k, k ∈ F → W.heap.size ≤ k) ∧ Below W.heap.size W w
theorem heldK.below {W w : World} {b most : Nat} {Q : List (Int × Int)} (h : heldK W w b most Q) : Below W.heap.size W w := by obtain ⟨F, _, _, h⟩ := h; exact h
theorem heldK.none {W w w' : World} {b most : Nat} {Q : List (Int × Int)} (h : heldK W w b most Q) (ht : turned w w' []) : heldK W w' b most Q := by
  obtain ⟨F, h1, h2, h3⟩ := h; exact ⟨F, h1.past ht (by simp), h2, below_turned h3 ht (by simp)⟩
theorem hpushK {W w : World} {b most : Nat} {Q : List (Int × Int)} (h : heldK W w b most Q) (x : Int × Int) (hr : Q.length < most) :
    Calls Try.prog 17 #[.pointer (some ⟨b, 0, none⟩), .agg #[.int .u16 x.1, .int .u16 x.2]] w fun e w' => e = .returned (.bool true) ∧ heldK W w' b most (Q ++ [x]) := by
  obtain ⟨F, h1, h2, h3⟩ := h
  refine (pushK b F most Q x hr w h1).mono ?_
  rintro e w' ⟨rfl, ⟨F', r1, r2⟩, t⟩
  exact ⟨rfl, F', r1, fun k hk => (r2 k hk).elim (h2 k) (fun h => Nat.le_trans h3.size h), below_turned h3 t h2⟩
theorem hfullK {W w : World} {b most : Nat} {Q : List (Int × Int)} (h : heldK W w b most Q) (x : Int × Int) (hr : ¬ Q.length < most) :
    Calls Try.prog 17 #[.pointer (some ⟨b, 0, none⟩), .agg #[.int .u16 x.1, .int .u16 x.2]] w fun e w' => e = .returned (.bool false) ∧ heldK W w' b most Q := by
  have h0 := h
  obtain ⟨F, h1, h2, h3⟩ := h
  refine (pushK_full b F most Q x hr w h1).mono ?_
  rintro e w' ⟨rfl, g⟩
  exact ⟨rfl, h0.none (turned_none g)⟩
theorem hlenK {W w : World} {b most : Nat} {Q : List (Int × Int)} (h : heldK W w b most Q) :
    Calls Try.prog 19 #[.pointer (some ⟨b, 0, none⟩)] w fun e w' => e = .returned (.int .i64 (Q.length : Int)) ∧ w = w' := by
  obtain ⟨F, h1, h2, h3⟩ := h
  exact rlenK b F most Q w h1
theorem hatK {W w : World} {b most : Nat} {Q : List (Int × Int)} (h : heldK W w b most Q) (i : Nat) (x : Int × Int) (hi : Q[i]? = some x) :
    Calls Try.prog 18 #[.pointer (some ⟨b, 0, none⟩), .int .i64 (i : Int)] w fun e w' => e = .returned (.tuple #[.agg #[.int .u16 x.1, .int .u16 x.2], .bool true]) ∧ heldK W w' b most Q := by
  have h0 := h
  obtain ⟨F, h1, h2, h3⟩ := h
  refine (atK b F most Q i x hi w h1).mono ?_
  rintro e w' ⟨rfl, g⟩
  exact ⟨rfl, h0.none (turned_none g)⟩
theorem hatK_no {W w : World} {b most : Nat} {Q : List (Int × Int)} (h : heldK W w b most Q) (i : Int) (hi : i < 0 ∨ (Q.length : Int) ≤ i) :
    Calls Try.prog 18 #[.pointer (some ⟨b, 0, none⟩), .int .i64 i] w fun e w' => e = .returned (.tuple #[.agg #[.int .u16 0, .int .u16 0], .bool false]) ∧ heldK W w' b most Q := by
  have h0 := h
  obtain ⟨F, h1, h2, h3⟩ := h
  refine (atK_no b F most Q i hi w h1).mono ?_
  rintro e w' ⟨rfl, g⟩
  exact ⟨rfl, h0.none (turned_none g)⟩
def firstK (f : Nat → Int × Int) (N i : Nat) : List (Int × Int) := (List.range (min i N)).map f
theorem firstK_len (f : Nat → Int × Int) (N i : Nat) : (firstK f N i).length = min i N := by unfold firstK; simp
theorem firstK_more (f : Nat → Int × Int) (N i : Nat) (h : i < N) : firstK f N (i + 1) = firstK f N i ++ [f i] := by
  unfold firstK
  rw [show min (i + 1) N = min i N + 1 by omega, List.range_succ, List.map_append, show min i N = i by omega]
  rfl
theorem firstK_same (f : Nat → Int × Int) (N i : Nat) (h : ¬ i < N) : firstK f N (i + 1) = firstK f N i := by
  unfold firstK
  rw [show min (i + 1) N = min i N by omega]
theorem firstK_at (f : Nat → Int × Int) (N n i : Nat) (h : i < min n N) : (firstK f N n)[i]? = some (f i) := by
  unfold firstK
  simp [h]
def KRel (W : World) (b N n : Nat) (f : Nat → Int × Int) (i : Value) (wr : World) : Prop := ∃ k : Nat, k ≤ n ∧ i = .int .i64 (k : Int) ∧ heldK W wr b N (firstK f N k)
def KRel2 (W : World) (b N n h : Nat) (f : Nat → Int × Int) (i : Value) (wr : World) : Prop := ∃ k : Nat, k ≤ h ∧ i = .int .i64 (k : Int) ∧ heldK W wr b N (firstK f N n)

set_option maxRecDepth 100000 in
set_option maxHeartbeats 16000000 in
theorem ringPlaces.walk (W : World) (r : Int) (wr : (Lit.int .u8 r).wf = true) (v : Value) (x : Nat × (Nat → Int × Int)) (ho : Skips W v x) (ix : Int) (wi : (Lit.int .i64 ix).wf = true) :
    Calls Try.prog 4 #[.int .u8 r, v, .int .i64 ix] W fun e w' => e = .returned (.bool true) ∧ Below W.heap.size W w' := by
  have hr := bounds_u8 wr
  have hix := bounds_i64 wi
  clear wr wi
  obtain ⟨n, f⟩ := x
  obtain ⟨a, cap, rfl, hcap, hcap2, hsl⟩ := ho
  simp only at hsl hcap
  have S1 := Lib.hid hsl
  clear hsl
  obtain ⟨R, rfl⟩ := Int.eq_ofNat_of_zero_le hr.1
  by_cases hn : n ≤ 300
  · skip
    go_enter Try.func4, Try.ntmps4
    go_wp2_with fail
    refine (rnewK (1 + (R : Int)) (by omega) _).mono ?_
    rintro e w1 ⟨rfl, h1, g1⟩
    rw [show (1 + (R : Int)).toNat = 1 + R by omega] at h1
    have H1 := Lib.hid (show heldK W w1 (W.heap.size + 1) (1 + R) (firstK f (1 + R) 0) from ⟨_, by simpa [firstK] using h1, by intro k hk; simp at hk; omega, below_none (Below.refl _ _) g1⟩)
    clear h1 g1
    generalize W.heap.size + 1 = b at H1 ⊢
    obtain ⟨N, hN⟩ : ∃ N, N = 1 + R := ⟨_, rfl⟩
    have hNI : (1 + (R : Int)) = (N : Int) := by omega
    have hN0 : N ≤ 256 := by omega
    rw [← hN] at H1
    rw [hNI]
    clear hN hNI hr
    go_wp2_with fail
    go_loopw [10] (fun i wr => KRel W b N n f i wr) (fun i _ => n - (intOf i).toNat)
    case atStart => exact ⟨0, Nat.zero_le _, rfl, H1.out⟩
    case round =>
      obtain ⟨k, hk, rfl, h2⟩ := hrel
      have H2 := Lib.hid h2
      clear h2
      by_cases hlt : k < n
      · rcases S1.out with h0 | ⟨b1, o1, rfl, hb1, hc1⟩
        · omega
        have r0 := sl_cell (hc1 k 0 hlt (by decide)) hb1 H2.out.below
        have r1 := sl_cell (hc1 k 1 hlt (by decide)) hb1 H2.out.below
        simp at r0 r1
        clear hc1
        by_cases hfit : k < N
        · go_wp2_with fail
          refine (hpushK H2.out (f k) (by rw [firstK_len]; omega)).mono ?_
          rintro e w3 ⟨rfl, h3⟩
          have H3 := Lib.hid h3
          clear h3
          go_wp2_with fail
          go_roundw
          case rel => exact ⟨k + 1, by omega, by go_num, by rw [firstK_more f N k hfit]; exact H3.out⟩
          case measure => simp [intOf]; omega
        · go_wp2_with fail
          refine (hfullK H2.out (f k) (by rw [firstK_len]; omega)).mono ?_
          rintro e w3 ⟨rfl, h3⟩
          have H3 := Lib.hid h3
          clear h3
          go_wp2_with fail
          go_roundw
          case rel => exact ⟨k + 1, by omega, by go_num, by rw [firstK_same f N k hfit]; exact H3.out⟩
          case measure => simp [intOf]; omega
      · obtain rfl : k = n := by omega
        obtain ⟨h, hh⟩ : ∃ h, h = min k N := ⟨_, rfl⟩
        have HL := Lib.hid (show ((firstK f N k).length : Int) = (h : Int) by rw [firstK_len, ← hh])
        have HH := Lib.hid hh
        clear hh
        by_cases hmin : (k : Int) < (N : Int)
        · have hhv : h = k := by have := HH.out; omega
          subst hhv
          go_wp2_with fail
          go_loopw [12] (fun i wr => KRel2 W b N h h f i wr) (fun i _ => h - (intOf i).toNat)
          case atStart => exact ⟨0, Nat.zero_le _, rfl, H2.out⟩
          case round =>
            obtain ⟨j, hj, rfl, h3⟩ := hrel
            have H3 := Lib.hid h3
            clear h3
            by_cases hlt2 : j < h
            · rcases S1.out with h0 | ⟨b1, o1, rfl, hb1, hc1⟩
              · have := HH.out; omega
              go_wp2_with fail
              refine (hatK H3.out j (f j) (firstK_at f N h j (by have := HH.out; omega))).mono ?_
              rintro e w4 ⟨rfl, h4⟩
              have r0 := sl_cell (hc1 j 0 (by have := HH.out; omega) (by decide)) hb1 ((h4.below.alloc h4.below.size (.cells #[.int .u16 (f j).1, .int .u16 (f j).2] 41)))
              have r1 := sl_cell (hc1 j 1 (by have := HH.out; omega) (by decide)) hb1 ((h4.below.alloc h4.below.size (.cells #[.int .u16 (f j).1, .int .u16 (f j).2] 41)))
              simp at r0 r1
              have H4 := Lib.hid (h4.none (turned_alloc (turned_refl w4 []) (.cells #[.int .u16 (f j).1, .int .u16 (f j).2] 41)))
              have hjn : (j : Int) < (h : Int) := by have := HH.out; omega
              clear h4 hc1
              go_wp2_with fail
              go_quiet (fail)
              go_wp2_with fail
              go_roundw
              case rel => exact ⟨j + 1, by omega, by go_num, H4.out.none (turned_drewN _ _ _)⟩
              case measure => simp [intOf]; omega
            · by_cases hiin : 0 ≤ ix ∧ ix < (h : Int)
              · obtain ⟨hi0, hi1⟩ := hiin
                obtain ⟨I, rfl⟩ := Int.eq_ofNat_of_zero_le hi0
                go_wp2_with fail
                refine (hatK H3.out I (f I) (firstK_at f N h I (by have := HH.out; omega))).mono ?_
                rintro e w4 ⟨rfl, h4⟩
                have H4 := Lib.hid (h4.none (turned_alloc (turned_refl w4 []) (.cells #[.int .u16 (f I).1, .int .u16 (f I).2] 41)))
                clear h4
                go_wp2_with fail
                refine (hlenK H4.out).mono ?_
                rintro e w5 ⟨rfl, rfl⟩
                rw [HL.out]
                go_wp2_with (go_at_call 10; refine (works_any _).mono ?_; rintro e w9 ⟨rfl, g9⟩)
                go_ret
                exact ⟨rfl, below_works H4.out.below g9⟩
              · have hib : ix < 0 ∨ (h : Int) ≤ ix := by omega
                clear hiin
                by_cases hi0 : ix < 0
                all_goals go_wp2_with fail
                all_goals refine (hatK_no H3.out ix (by have := HL.out; omega)).mono ?_
                all_goals rintro e w4 ⟨rfl, h4⟩
                all_goals have H4 := Lib.hid (h4.none (turned_alloc (turned_refl w4 []) (.cells #[.int .u16 0, .int .u16 0] 41)))
                all_goals clear h4
                all_goals go_wp2_with fail
                all_goals refine (hlenK H4.out).mono ?_
                all_goals rintro e w5 ⟨rfl, rfl⟩
                all_goals rw [HL.out]
                all_goals go_wp2_with (go_at_call 10; refine (works_any _).mono ?_; rintro e w9 ⟨rfl, g9⟩)
                all_goals go_ret
                all_goals exact ⟨rfl, below_works H4.out.below g9⟩
        · have hhv : h = N := by have := HH.out; omega
          subst hhv
          go_wp2_with fail
          go_loopw [12] (fun i wr => KRel2 W b h k h f i wr) (fun i _ => h - (intOf i).toNat)
          case atStart => exact ⟨0, Nat.zero_le _, rfl, H2.out⟩
          case round =>
            obtain ⟨j, hj, rfl, h3⟩ := hrel
            have H3 := Lib.hid h3
            clear h3
            by_cases hlt2 : j < h
            · rcases S1.out with h0 | ⟨b1, o1, rfl, hb1, hc1⟩
              · have := HH.out; omega
              go_wp2_with fail
              refine (hatK H3.out j (f j) (firstK_at f h k j (by have := HH.out; omega))).mono ?_
              rintro e w4 ⟨rfl, h4⟩
              have r0 := sl_cell (hc1 j 0 (by have := HH.out; omega) (by decide)) hb1 ((h4.below.alloc h4.below.size (.cells #[.int .u16 (f j).1, .int .u16 (f j).2] 41)))
              have r1 := sl_cell (hc1 j 1 (by have := HH.out; omega) (by decide)) hb1 ((h4.below.alloc h4.below.size (.cells #[.int .u16 (f j).1, .int .u16 (f j).2] 41)))
              simp at r0 r1
              have H4 := Lib.hid (h4.none (turned_alloc (turned_refl w4 []) (.cells #[.int .u16 (f j).1, .int .u16 (f j).2] 41)))
              have hjn : (j : Int) < (k : Int) := by have := HH.out; omega
              clear h4 hc1
              go_wp2_with fail
              go_quiet (fail)
              go_wp2_with fail
              go_roundw
              case rel => exact ⟨j + 1, by omega, by go_num, H4.out.none (turned_drewN _ _ _)⟩
              case measure => simp [intOf]; omega
            · by_cases hiin : 0 ≤ ix ∧ ix < (h : Int)
              · obtain ⟨hi0, hi1⟩ := hiin
                obtain ⟨I, rfl⟩ := Int.eq_ofNat_of_zero_le hi0
                go_wp2_with fail
                refine (hatK H3.out I (f I) (firstK_at f h k I (by have := HH.out; omega))).mono ?_
                rintro e w4 ⟨rfl, h4⟩
                have H4 := Lib.hid (h4.none (turned_alloc (turned_refl w4 []) (.cells #[.int .u16 (f I).1, .int .u16 (f I).2] 41)))
                clear h4
                go_wp2_with fail
                refine (hlenK H4.out).mono ?_
                rintro e w5 ⟨rfl, rfl⟩
                rw [HL.out]
                go_wp2_with (go_at_call 10; refine (works_any _).mono ?_; rintro e w9 ⟨rfl, g9⟩)
                go_ret
                exact ⟨rfl, below_works H4.out.below g9⟩
              · have hib : ix < 0 ∨ (h : Int) ≤ ix := by omega
                clear hiin
                by_cases hi0 : ix < 0
                all_goals go_wp2_with fail
                all_goals refine (hatK_no H3.out ix (by have := HL.out; omega)).mono ?_
                all_goals rintro e w4 ⟨rfl, h4⟩
                all_goals have H4 := Lib.hid (h4.none (turned_alloc (turned_refl w4 []) (.cells #[.int .u16 0, .int .u16 0] 41)))
                all_goals clear h4
                all_goals go_wp2_with fail
                all_goals refine (hlenK H4.out).mono ?_
                all_goals rintro e w5 ⟨rfl, rfl⟩
                all_goals rw [HL.out]
                all_goals go_wp2_with (go_at_call 10; refine (works_any _).mono ?_; rintro e w9 ⟨rfl, g9⟩)
                all_goals go_ret
                all_goals exact ⟨rfl, below_works H4.out.below g9⟩
  · have hn2 : 300 < n := by omega
    go_enter Try.func4, Try.ntmps4
    go_wp2_with fail
    refine (rnewK (1 + (R : Int)) (by omega) _).mono ?_
    rintro e w1 ⟨rfl, h1, g1⟩
    have H1 := Lib.hid (below_none (Below.refl _ _) g1)
    clear h1 g1
    go_wp2_with (go_at_call 10; refine (works_any _).mono ?_; rintro e w9 ⟨rfl, g9⟩)
    go_ret
    exact ⟨rfl, below_works H1.out g9⟩
end Go.Proofs.Ytplbgfjemcpcpaa
