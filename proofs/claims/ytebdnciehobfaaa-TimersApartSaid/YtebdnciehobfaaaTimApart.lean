/- The walk of TimersApart. No condition. -/
import Derived.Test.YtebdnciehobfaaaTimRows
namespace Go.Proofs.Ytebdnciehobfaaa
open Go.RowKit Go.ChangeShapes Go.WideShapes Go.Deep
set_option linter.unusedVariables false
set_option linter.unusedSimpArgs false

/-- Two tables of the law's own. -/
def two (W w : World) (a b n m : Nat) (L M : List (Int × Int)) : Prop :=
  ∃ F G, tabI w a F n L ∧ tabI w b G m M ∧ (∀ k, k ∈ F → W.heap.size ≤ k ∧ k ∉ G) ∧ (∀ k, k ∈ G → W.heap.size ≤ k ∧ k ∉ F) ∧ Below W.heap.size W w
theorem two.turn {W w : World} {a b n m : Nat} {L M : List (Int × Int)} (h : two W w a b n m L M) : two W w b a m n M L := by
  obtain ⟨F, G, h1, h2, h3, h4, h5⟩ := h; exact ⟨G, F, h2, h1, h4, h3, h5⟩
theorem two.below {W w : World} {a b n m : Nat} {L M : List (Int × Int)} (h : two W w a b n m L M) : Below W.heap.size W w := by obtain ⟨F, G, _, _, _, _, h⟩ := h; exact h
theorem two.val {W w : World} {a b n m : Nat} {L M L' : List (Int × Int)} (h : two W w a b n m L M) (e : L = L') : two W w a b n m L' M := e ▸ h
theorem two.keys {W w : World} {a b n m : Nat} {L M : List (Int × Int)} (h : two W w a b n m L M) : L.Pairwise (fun a b => a.1 ≠ b.1) := by obtain ⟨F, G, h, _⟩ := h; exact h.keys
theorem two_new {W w : World} {a n : Nat} {L : List (Int × Int)} (h : heldI W w a n L) :
    Calls Try.prog 11 #[] w fun e w' => e = .returned (.pointer (some ⟨w.heap.size + 1, 0, none⟩)) ∧ two W w' a (w.heap.size + 1) n 0 L [] := by
  obtain ⟨F, h1, h2, h3⟩ := h
  have hs := h3.size
  have hlt := h1.lt
  refine (tnewI w).mono ?_
  rintro e w' ⟨rfl, r1, g⟩
  refine ⟨rfl, F, _, h1.past (turned_none g (L := [])) (by simp), r1, fun k hk => ⟨h2 k hk, fun e => ?_⟩, fun k hk => ⟨?_, fun e => ?_⟩, below_none h3 g⟩
  · have := hlt k hk; simp at e; omega
  · simp at hk; omega
  · have := hlt k e; simp at hk; omega
theorem two_set {W w : World} {a b n m : Nat} {L M : List (Int × Int)} (h : two W w a b n m L M) (k : Int) (t : Int) (hk : okI k) (hn : n < 4611686018427387904) :
    Calls Try.prog 12 #[.pointer (some ⟨a, 0, none⟩), mkI k, .int .i64 t] w fun e w' => e = .returned (.tuple #[]) ∧ two W w' a b (n + 1) m (drp k L ++ [(k, t)]) M := by
  obtain ⟨F, G, h1, h2, h3, h4, h5⟩ := h
  refine (tsetI a F n L k t w h1 hk hn).mono ?_
  rintro e w' ⟨rfl, r, g⟩
  exact ⟨rfl, F, G, r, h2.past g (fun k hk => (h4 k hk).2), h3, h4, below_turned h5 g (fun k hk => (h3 k hk).1)⟩
theorem two_stop {W w : World} {a b n m : Nat} {L M : List (Int × Int)} (h : two W w a b n m L M) (k : Int) (hk : okI k) :
    Calls Try.prog 14 #[.pointer (some ⟨a, 0, none⟩), mkI k] w fun e w' => e = .returned (.bool (decide (∃ x, x ∈ L ∧ x.1 = k))) ∧ two W w' a b n m (drp k L) M := by
  obtain ⟨F, G, h1, h2, h3, h4, h5⟩ := h
  refine (tstopI a F n L k w h1 hk).mono ?_
  rintro e w' ⟨rfl, r, g⟩
  exact ⟨rfl, F, G, r, h2.past g (fun k hk => (h4 k hk).2), h3, h4, below_turned h5 g (fun k hk => (h3 k hk).1)⟩
theorem two_len {W w : World} {a b n m : Nat} {L M : List (Int × Int)} (h : two W w a b n m L M) :
    Calls Try.prog 20 #[.pointer (some ⟨a, 0, none⟩)] w fun e w' => e = .returned (.int .i64 (L.length : Int)) ∧ w = w' := by
  obtain ⟨F, G, h1, _⟩ := h
  exact tlenI a F n L w h1
/-- What is left of the rows: the keys from i on. -/
def tailed (f : Nat → Int) (i n : Nat) (L : List (Int × Int)) : Prop := ∀ y, y ∈ L ↔ ∃ j : Nat, i ≤ j ∧ j < n ∧ y = ((j : Int), f j)
theorem tailed_start (f : Nat → Int) (n : Nat) : tailed f 0 n (rows f n) := fun y => by
  rw [mem_rows]
  exact ⟨fun ⟨j, h, e⟩ => ⟨j, Nat.zero_le _, h, e⟩, fun ⟨j, _, h, e⟩ => ⟨j, h, e⟩⟩
theorem tailed_step {f : Nat → Int} {i n : Nat} {L : List (Int × Int)} (h : tailed f i n L) : tailed f (i + 1) n (drp (i : Int) L) := fun y => by
  rw [mem_drp, h y]
  constructor
  · rintro ⟨⟨j, h1, h2, rfl⟩, hne⟩
    have : j ≠ i := fun e => hne (by rw [e])
    exact ⟨j, by omega, h2, rfl⟩
  · rintro ⟨j, h1, h2, rfl⟩
    exact ⟨⟨j, by omega, h2, rfl⟩, by show (j : Int) ≠ i; omega⟩
theorem tailed_has {f : Nat → Int} {i n : Nat} {L : List (Int × Int)} (h : tailed f i n L) (hi : i < n) : ∃ x, x ∈ L ∧ x.1 = (i : Int) := ⟨((i : Int), f i), (h _).2 ⟨i, Nat.le_refl _, hi, rfl⟩, rfl⟩
theorem tailed_end {f : Nat → Int} {i n : Nat} {L : List (Int × Int)} (h : tailed f i n L) (hi : n ≤ i) : L = [] := by
  cases L with
  | nil => rfl
  | cons y r => obtain ⟨j, h1, h2, _⟩ := (h y).1 (by simp); omega
def PRel1 (W : World) (a b n m : Nat) (f g : Nat → Int) (i : Value) (wr : World) : Prop :=
  ∃ k : Nat, k ≤ max n m ∧ i = .int .i64 (k : Int) ∧ two W wr a b (min k n) (min k m) (rows f (min k n)) (rows g (min k m))
def PRel2 (W : World) (a b n m : Nat) (f g : Nat → Int) (i : Value) (wr : World) : Prop :=
  ∃ (k : Nat) (M : List (Int × Int)), k ≤ m ∧ i = .int .i64 (k : Int) ∧ two W wr a b n m (rows f n) M ∧ tailed g k m M
def PRel3 (W : World) (a b n m : Nat) (f : Nat → Int) (i : Value) (wr : World) : Prop :=
  ∃ (k : Nat) (L : List (Int × Int)), k ≤ n ∧ i = .int .i64 (k : Int) ∧ two W wr a b n m L [] ∧ tailed f k n L
theorem rows_more (f : Nat → Int) (k n : Nat) (h : k < n) : drp (k : Int) (rows f (min k n)) ++ [((k : Int), f k)] = rows f (min (k + 1) n) ∧ min k n + 1 = min (k + 1) n := by
  rw [show min k n = k by omega, show min (k + 1) n = k + 1 by omega]
  exact ⟨rows_step f k, rfl⟩
theorem two.more {W w : World} {a b n m k : Nat} {f : Nat → Int} {M : List (Int × Int)} (h : two W w a b (min k n + 1) m (drp (k : Int) (rows f (min k n)) ++ [((k : Int), f k)]) M) (hk : k < n) : two W w a b (min (k + 1) n) m (rows f (min (k + 1) n)) M := by
  obtain ⟨e1, e2⟩ := rows_more f k n hk
  rw [e1, e2] at h; exact h
theorem two.same {W w : World} {a b n m k : Nat} {f : Nat → Int} {M : List (Int × Int)} (h : two W w a b (min k n) m (rows f (min k n)) M) (hk : ¬ k < n) : two W w a b (min (k + 1) n) m (rows f (min (k + 1) n)) M := by
  rw [show min (k + 1) n = min k n by omega]; exact h

set_option maxRecDepth 100000 in
set_option maxHeartbeats 16000000 in
theorem apart_good (v1 v2 : Value) (x1 x2 : Nat × (Nat → Int)) (W : World) (ho1 : Times W v1 x1) (ho2 : Times W v2 x2) (hn1 : x1.1 ≤ 200) (hn2 : x2.1 ≤ 200) :
    Calls Try.prog 8 #[v1, v2] W fun e w' => e = .returned (.bool true) ∧ Below W.heap.size W w' := by
  obtain ⟨n, f⟩ := x1
  obtain ⟨m, g⟩ := x2
  obtain ⟨⟨a1, cap1, rfl, hcap1, hcap1', hsl1⟩, hts1⟩ := ho1
  obtain ⟨⟨a2, cap2, rfl, hcap2, hcap2', hsl2⟩, hts2⟩ := ho2
  simp only at hn1 hn2 hsl1 hsl2 hcap1 hcap2
  have S1 := Lib.hid hsl1
  have S2 := Lib.hid hsl2
  clear hsl1 hsl2 hts1 hts2
  have e1 : decide ((200 : Int) < (n : Int)) = false := decide_eq_false (by omega)
  have e2 : decide ((200 : Int) < (m : Int)) = false := decide_eq_false (by omega)
  go_enter Try.func8, Try.ntmps8
  go_wp2_with fail
  refine (hnewI (Below.refl _ W)).mono ?_
  rintro e w1 ⟨rfl, h1⟩
  have H1 := Lib.hid h1
  clear h1
  go_wp2_with fail
  refine (two_new H1.out).mono ?_
  rintro e w2 ⟨rfl, h2⟩
  have H2 := Lib.hid h2
  clear h2
  generalize W.heap.size + 1 = a at H1 H2 ⊢
  generalize w1.heap.size + 1 = b at H2 ⊢
  go_wp2_with fail
  go_loopw [7] (fun i wr => PRel1 W a b n m f g i wr) (fun i _ => max n m - (intOf i).toNat)
  case atStart => exact ⟨0, Nat.zero_le _, rfl, by simpa [rows] using H2.out⟩
  case round =>
    obtain ⟨k, hk, rfl, h3⟩ := hrel
    have H3 := Lib.hid h3
    clear h3
    have okk : okI (k : Int) := keyI (wf_i64 (by omega))
    by_cases hnm : n < m
    all_goals by_cases hkn : k < n
    all_goals by_cases hkm : k < m
    all_goals try omega
    all_goals first
      | (rcases S1.out with h0 | ⟨b1, o1, rfl, hb1, hc1⟩
         · omega
         rcases S2.out with h0 | ⟨b2, o2, rfl, hb2, hc2⟩
         · omega
         have r1 := sl_cell (hc1 k 0 hkn (by decide)) hb1 H3.out.below
         simp at r1
         clear hc1
         go_wp2_with fail
         refine (two_set H3.out (k : Int) (f k) okk (by omega)).mono ?_
         rintro e w4 ⟨rfl, h4⟩
         have H4 := Lib.hid (h4.more hkn).turn
         have r2 := sl_cell (hc2 k 0 hkm (by decide)) hb2 h4.below
         simp at r2
         clear h4 hc2 r1
         go_wp2_with fail
         refine (two_set H4.out (k : Int) (g k) okk (by omega)).mono ?_
         rintro e w5 ⟨rfl, h5⟩
         have H5 := Lib.hid (h5.more hkm).turn
         clear h5 r2
         go_wp2_with fail
         go_roundw
         case rel => exact ⟨k + 1, by omega, by go_num, H5.out⟩
         case measure => simp [intOf]; omega)
      | (rcases S2.out with h0 | ⟨b2, o2, rfl, hb2, hc2⟩
         · omega
         have r2 := sl_cell (hc2 k 0 hkm (by decide)) hb2 H3.out.below
         simp at r2
         clear hc2
         go_wp2_with fail
         refine (two_set H3.out.turn (k : Int) (g k) okk (by omega)).mono ?_
         rintro e w5 ⟨rfl, h5⟩
         have H5 := Lib.hid ((h5.more hkm).turn.same hkn)
         clear h5 r2
         go_wp2_with fail
         go_roundw
         case rel => exact ⟨k + 1, by omega, by go_num, H5.out⟩
         case measure => simp [intOf]; omega)
      | (rcases S1.out with h0 | ⟨b1, o1, rfl, hb1, hc1⟩
         · omega
         have r1 := sl_cell (hc1 k 0 hkn (by decide)) hb1 H3.out.below
         simp at r1
         clear hc1
         go_wp2_with fail
         refine (two_set H3.out (k : Int) (f k) okk (by omega)).mono ?_
         rintro e w5 ⟨rfl, h5⟩
         have H5 := Lib.hid ((h5.more hkn).turn.same hkm).turn
         clear h5 r1
         go_wp2_with fail
         go_roundw
         case rel => exact ⟨k + 1, by omega, by go_num, H5.out⟩
         case measure => simp [intOf]; omega)
      | (have EA := Lib.hid (show two W wr a b n m (rows f n) (rows g m) by have := H3.out; rw [show min k n = n by omega, show min k m = m by omega] at this; exact this)
         go_wp2_with fail
         go_loopw [8] (fun i wr => PRel2 W a b n m f g i wr) (fun i _ => m - (intOf i).toNat)
         case atStart => exact ⟨0, _, Nat.zero_le _, rfl, EA.out, tailed_start g m⟩
         case round =>
           obtain ⟨i, M, hi, rfl, h6, ht⟩ := hrel
           have H6 := Lib.hid h6
           have HT := Lib.hid ht
           clear h6 ht
           by_cases him : i < m
           · go_wp2_with fail
             refine (two_stop H6.out.turn (i : Int) (keyI (wf_i64 (by omega)))).mono ?_
             rintro e w7 ⟨rfl, h7⟩
             rw [decide_eq_true (tailed_has HT.out him)]
             have H7 := Lib.hid h7.turn
             clear h7
             go_wp2_with fail
             go_roundw
             case rel => exact ⟨i + 1, _, by omega, by go_num, H7.out, tailed_step HT.out⟩
             case measure => simp [intOf]; omega
           · have hM := tailed_end HT.out (by omega)
             subst hM
             go_wp2_with fail
             go_loopw [9] (fun i wr => PRel3 W a b n m f i wr) (fun i _ => n - (intOf i).toNat)
             case atStart => exact ⟨0, _, Nat.zero_le _, rfl, H6.out, tailed_start f n⟩
             case round =>
               obtain ⟨i3, L, hi3, rfl, h8, ht8⟩ := hrel
               have H8 := Lib.hid h8
               have HT8 := Lib.hid ht8
               clear h8 ht8
               by_cases hin : i3 < n
               · go_wp2_with fail
                 refine (two_stop H8.out (i3 : Int) (keyI (wf_i64 (by omega)))).mono ?_
                 rintro e w9 ⟨rfl, h9⟩
                 rw [decide_eq_true (tailed_has HT8.out hin)]
                 have H9 := Lib.hid h9
                 clear h9
                 go_wp2_with fail
                 go_roundw
                 case rel => exact ⟨i3 + 1, _, by omega, by go_num, H9.out, tailed_step HT8.out⟩
                 case measure => simp [intOf]; omega
               · have hL := tailed_end HT8.out (by omega)
                 subst hL
                 go_wp2_with fail
                 refine (two_len H8.out.turn).mono ?_
                 rintro e w9 ⟨rfl, rfl⟩
                 go_wp2_with fail
                 refine (two_len H8.out).mono ?_
                 rintro e w9 ⟨rfl, rfl⟩
                 go_wp2_with (go_at_call 10; refine (works_any _).mono ?_; rintro e w9 ⟨rfl, g9⟩)
                 go_ret
                 exact ⟨rfl, below_works H8.out.below g9⟩)
set_option maxHeartbeats 4000000 in
theorem timersApart.walk (W : World) (v1 : Value) (x1 : Nat × (Nat → Int)) (ho1 : Times W v1 x1) (v2 : Value) (x2 : Nat × (Nat → Int)) (ho2 : Times W v2 x2) :
    Calls Try.prog 8 #[v1, v2] W fun e w' => e = .returned (.bool true) ∧ Below W.heap.size W w' := by
  by_cases hn : x1.1 ≤ 200 ∧ x2.1 ≤ 200
  · exact apart_good v1 v2 x1 x2 W ho1 ho2 hn.1 hn.2
  · obtain ⟨n, f⟩ := x1
    obtain ⟨m, g⟩ := x2
    obtain ⟨⟨a1, cap1, rfl, hcap1, hcap1', hsl1⟩, hts1⟩ := ho1
    obtain ⟨⟨a2, cap2, rfl, hcap2, hcap2', hsl2⟩, hts2⟩ := ho2
    simp only at hn
    clear hsl1 hts1 hsl2 hts2
    by_cases h1 : 200 < n
    · have e1 : decide ((200 : Int) < (n : Int)) = true := decide_eq_true (by omega)
      go_enter Try.func8, Try.ntmps8
      go_wp2_with (go_at_call 10; refine (works_any _).mono ?_; rintro e w9 ⟨rfl, g9⟩)
      go_ret
      exact ⟨rfl, g9⟩
    · have e1 : decide ((200 : Int) < (n : Int)) = false := decide_eq_false (by omega)
      have e2 : decide ((200 : Int) < (m : Int)) = true := decide_eq_true (by omega)
      go_enter Try.func8, Try.ntmps8
      go_wp2_with (go_at_call 10; refine (works_any _).mono ?_; rintro e w9 ⟨rfl, g9⟩)
      go_ret
      exact ⟨rfl, g9⟩
end Go.Proofs.Ytebdnciehobfaaa
