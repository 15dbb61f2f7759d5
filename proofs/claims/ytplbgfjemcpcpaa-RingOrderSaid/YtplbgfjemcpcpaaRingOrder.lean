/- The walk of RingOrder. No condition. -/
import Derived.Test.YtplbgfjemcpcpaaRingWorks
import Derived.Test.YtplbgfjemcpcpaaRingHeldU
namespace Go.Proofs.Ytplbgfjemcpcpaa
open Go.RowKit Go.Conc Go.ChangeShapes Go.WideShapes Go.Deep
set_option linter.unusedVariables false
set_option linter.unusedSimpArgs false

/-- Numbers that came in. -/
def U32s (W : World) (v : Value) (x : Nat × (Nat → Int)) : Prop :=
  IsSl W v x.1 1 (fun i _ => .int .u32 (x.2 i)) ∧ ∀ i, i < x.1 → 0 ≤ x.2 i ∧ x.2 i ≤ 4294967295
theorem opened22 {H : Type} {enc : TypeId × Value → H} {W : World} {r : Reach} {base : Nat} {v : Value} {d : DataW H} {p : List MemPlace}
    (hv : Value.okWide Try.prog W r base 22 v) (h : DataW.Trod enc Try.prog W 0 (fun _ => true) true 22 v d p) : ∃ x, U32s W v x := by
  obtain ⟨n, V, hsl, hV⟩ := openSl1 Try.underlying22 (by kernel_rfl) hv h
  have e1 : ∀ i, i < n → ∃ c : Int, V i 0 = .int .u32 c ∧ (Lit.int .u32 c).wf = true := fun i hi => by
    obtain ⟨m, y, hy⟩ := hV i hi
    exact trod_int1 Try.underlying29 hy
  obtain ⟨ts, hts⟩ := choose_lt e1
  refine ⟨(n, ts), isSl_congr hsl fun i j hi hj => ?_, fun i hi => bounds_u32 (hts i hi).2⟩
  have : j = 0 := by omega
  subst this
  rw [(hts i hi).1]

def U8s (W : World) (v : Value) (x : Nat × (Nat → Int)) : Prop :=
  IsSl W v x.1 1 (fun i _ => .int .u8 (x.2 i)) ∧ ∀ i, i < x.1 → 0 ≤ x.2 i ∧ x.2 i ≤ 255
theorem opened23 {H : Type} {enc : TypeId × Value → H} {W : World} {r : Reach} {base : Nat} {v : Value} {d : DataW H} {p : List MemPlace}
    (hv : Value.okWide Try.prog W r base 23 v) (h : DataW.Trod enc Try.prog W 0 (fun _ => true) true 23 v d p) : ∃ x, U8s W v x := by
  obtain ⟨n, V, hsl, hV⟩ := openSl1 Try.underlying23 (by kernel_rfl) hv h
  have e1 : ∀ i, i < n → ∃ c : Int, V i 0 = .int .u8 c ∧ (Lit.int .u8 c).wf = true := fun i hi => by
    obtain ⟨m, y, hy⟩ := hV i hi
    exact trod_int1 Try.underlying5 hy
  obtain ⟨ts, hts⟩ := choose_lt e1
  refine ⟨(n, ts), isSl_congr hsl fun i j hi hj => ?_, fun i hi => bounds_u8 (hts i hi).2⟩
  have : j = 0 := by omega
  subst this
  rw [(hts i hi).1]

/-- A ring of the law's own, and a row of numbers beside it. -/
def hw (W w : World) (b most : Nat) (Q : List Int) (v : Value) (wl : List Int) : Prop :=
  ∃ F, ringU w b F most Q ∧ w.ownsRow W.heap.size 29 1 v wl.length (wl.map (Value.int .u32)) ∧ (∀ k, k ∈ F → W.heap.size ≤ k ∧ v.ownBlock ≠ some k) ∧ Below W.heap.size W w
theorem hw.below {W w : World} {b most : Nat} {Q wl : List Int} {v : Value} (h : hw W w b most Q v wl) : Below W.heap.size W w := by obtain ⟨F, _, _, _, h⟩ := h; exact h
theorem hw.own {W w : World} {b most : Nat} {Q wl : List Int} {v : Value} (h : hw W w b most Q v wl) : w.ownsRow W.heap.size 29 1 v wl.length (wl.map (Value.int .u32)) := by obtain ⟨F, _, h, _⟩ := h; exact h
theorem hw.bound {W w : World} {b most : Nat} {Q wl : List Int} {v : Value} (h : hw W w b most Q v wl) : Q.length ≤ most := by
  obtain ⟨F, ⟨c, sv, first, D, _, _, _, _, _, _, _, _, h9, h10⟩, _⟩ := h
  rw [List.length_map] at h9
  exact h9
theorem hw.held {W w : World} {b most : Nat} {Q wl : List Int} {v : Value} (h : hw W w b most Q v wl) : heldU W w b most Q := by
  obtain ⟨F, h1, h2, h3, h4⟩ := h; exact ⟨F, h1, fun k hk => (h3 k hk).1, h4⟩
theorem hw.form0 {W w : World} {b most : Nat} {Q wl : List Int} {v : Value} (h : hw W w b most Q v wl) : ∃ a c, v = .slice a wl.length c := by
  rcases h.own.2 with ⟨rfl, h0⟩ | ⟨g, cap, cur, rfl, _⟩
  · exact ⟨none, 0, by rw [h0]⟩
  · exact ⟨_, _, rfl⟩
theorem hw.form {W w : World} {b most : Nat} {Q wl : List Int} {v : Value} (h : hw W w b most Q v wl) (hn : 0 < wl.length) : ∃ g c, v = .slice (some ⟨g, 0, none⟩) wl.length c := by
  rcases h.own.2 with ⟨rfl, h0⟩ | ⟨g, cap, cur, rfl, _⟩
  · omega
  · exact ⟨_, _, rfl⟩
theorem hw.at {W w : World} {b most g cp f : Nat} {Q wl : List Int} (h : hw W w b most Q (.slice (some ⟨g, 0, none⟩) wl.length cp) wl) (hf : f < wl.length) : w.cell? ⟨g, f, none⟩ = some (.int .u32 (wl[f]'hf)) := by
  rw [h.own.cellAt f (by omega)]
  simp [hf]
theorem hw.cons {W w : World} {b most f : Nat} {wl : List Int} {v : Value} (h : hw W w b most (wl.drop f) v wl) (hf : f < wl.length) : hw W w b most (wl[f]'hf :: wl.drop (f + 1)) v wl := by
  rw [← List.drop_eq_getElem_cons hf]; exact h
theorem hw.empty {W w : World} {b most f : Nat} {wl : List Int} {v : Value} (h : hw W w b most (wl.drop f) v wl) (hf : ¬ f < wl.length) : hw W w b most [] v wl := by
  rw [List.drop_eq_nil_of_le (by omega)] at h; exact h
theorem hw.step {W w w' : World} {b most : Nat} {Q' wl : List Int} {F F' : List Nat} {v : Value} (h2 : w.ownsRow W.heap.size 29 1 v wl.length (wl.map (Value.int .u32))) (h3 : ∀ k, k ∈ F → W.heap.size ≤ k ∧ v.ownBlock ≠ some k) (h4 : Below W.heap.size W w)
    (r1 : ringU w' b F' most Q') (r2 : newFoot w F F') (t : turned w w' F) : hw W w' b most Q' v wl := by
  refine ⟨F', r1, ownsRow_past h2 t (fun g hg hf => (h3 g hf).2 hg), fun k hk => ?_, below_turned h4 t (fun k hk => (h3 k hk).1)⟩
  rcases r2 k hk with h | h
  · exact h3 k h
  · refine ⟨Nat.le_trans h4.size h, fun e => ?_⟩
    have := (h2.lt k e).2
    omega
theorem opush {W w : World} {b most : Nat} {Q wl : List Int} {v : Value} (h : hw W w b most Q v wl) (x : Int) (hr : Q.length < most) :
    Calls Try.prog 12 #[.pointer (some ⟨b, 0, none⟩), .int .u32 x] w fun e w' => e = .returned (.bool true) ∧ hw W w' b most (Q ++ [x]) v wl := by
  obtain ⟨F, h1, h2, h3, h4⟩ := h
  refine (pushU b F most Q x hr w h1).mono ?_
  rintro e w' ⟨rfl, ⟨F', r1, r2⟩, t⟩
  exact ⟨rfl, hw.step h2 h3 h4 r1 r2 t⟩
theorem opop {W w : World} {b most : Nat} {Q wl : List Int} {v : Value} {x : Int} (h : hw W w b most (x :: Q) v wl) :
    Calls Try.prog 13 #[.pointer (some ⟨b, 0, none⟩)] w fun e w' => e = .returned (.tuple #[.int .u32 x, .bool true]) ∧ hw W w' b most Q v wl := by
  obtain ⟨F, h1, h2, h3, h4⟩ := h
  refine (popU b F most Q x w h1).mono ?_
  rintro e w' ⟨rfl, ⟨F', r1, r2⟩, t⟩
  exact ⟨rfl, hw.step h2 h3 h4 r1 r2 t⟩
theorem oempty {W w : World} {b most : Nat} {wl : List Int} {v : Value} (h : hw W w b most [] v wl) :
    Calls Try.prog 13 #[.pointer (some ⟨b, 0, none⟩)] w fun e w' => e = .returned (.tuple #[.int .u32 0, .bool false]) ∧ w = w' := hemptyU h.held
theorem hw_append {W w w2 : World} {b most : Nat} {Q wl : List Int} {v v' : Value} {x : Int} {o : Obj} (h : hw W w b most Q v wl) (ho : w2.ownsRow W.heap.size 29 1 v' (wl.length + 1) (wl.map (Value.int .u32) ++ [.int .u32 x])) (hg : (w.alloc o).grownBy w2 v.ownBlock)
    (hl : v'.ownBlock = v.ownBlock ∨ v'.ownBlock = some (w.heap.size + 1)) : hw W w2 b most Q v' (wl ++ [x]) := by
  obtain ⟨F, h1, h2, h3, h4⟩ := h
  have t : turned w w2 v.ownBlock.toList := turned_grown (turned_alloc (turned_refl _ _) _) hg (fun k hk => Or.inl (by simp [hk]))
  have hs := t.2.2.2.1
  refine ⟨F, h1.past t (fun k hk hm => (h3 k hk).2 (by simpa using hm)), by simpa using ho, fun k hk => ⟨(h3 k hk).1, fun e => ?_⟩, below_turned h4 t (fun k hk => (h2.lt k (by simpa using hk)).1)⟩
  rcases hl with hl | hl
  · exact (h3 k hk).2 (by rw [← hl]; exact e)
  · rw [hl] at e
    have := ringIs.lt h1 k hk
    simp at e
    omega
def ORel (W : World) (b N n : Nat) (want first i : Value) (wr : World) : Prop :=
  ∃ (k f : Nat) (v : Value) (wl : List Int), k ≤ n ∧ want = v ∧ first = .int .i64 (f : Int) ∧ i = .int .i64 (k : Int) ∧ f ≤ wl.length ∧ wl.length ≤ k ∧ hw W wr b N (wl.drop f) v wl
def IRel (W : World) (b N n2 : Nat) (v : Value) (wl : List Int) (first j : Value) (wr : World) : Prop :=
  ∃ j' f : Nat, j' ≤ 5 ∧ first = .int .i64 (f : Int) ∧ j = .int .i64 (j' : Int) ∧ f ≤ wl.length ∧ hw W wr b N (wl.drop f) v wl
def LRel (W : World) (b N : Nat) (v : Value) (wl : List Int) (first : Value) (wr : World) : Prop :=
  ∃ f : Nat, first = .int .i64 (f : Int) ∧ f ≤ wl.length ∧ hw W wr b N (wl.drop f) v wl

set_option maxRecDepth 100000 in
set_option maxHeartbeats 16000000 in
theorem order_good (r : Int) (hr : 0 ≤ r ∧ r ≤ 255) (v1 v2 : Value) (x1 x2 : Nat × (Nat → Int)) (W : World) (ho1 : U32s W v1 x1) (ho2 : U8s W v2 x2) (hn1 : x1.1 ≤ 300) (hn2 : x2.1 ≤ 300) :
    Calls Try.prog 3 #[.int .u8 r, v1, v2] W fun e w' => e = .returned (.bool true) ∧ Below W.heap.size W w' := by
  obtain ⟨n, ts⟩ := x1
  obtain ⟨n2, ps⟩ := x2
  obtain ⟨⟨a1, cap1, rfl, hcap1, hcap1', hsl1⟩, hts1⟩ := ho1
  obtain ⟨⟨a2, cap2, rfl, hcap2, hcap2', hsl2⟩, hts2⟩ := ho2
  simp only at hn1 hn2 hsl1 hsl2 hcap1 hcap2 hts2
  have S1 := Lib.hid hsl1
  have S2 := Lib.hid hsl2
  have T2 := Lib.hid hts2
  clear hsl1 hsl2 hts1 hts2
  obtain ⟨R, rfl⟩ := Int.eq_ofNat_of_zero_le hr.1
  obtain ⟨i0, hi, hz0, hz1, hz2⟩ := info_parts infoU
  go_enter Try.func3, Try.ntmps3
  go_wp2_with fail
  refine (hnewU W W (Below.refl _ _) (1 + (R : Int)) (by omega)).mono ?_
  rintro e w1 ⟨rfl, h1, l1⟩
  rw [show (1 + (R : Int)).toNat = 1 + R by omega] at h1
  have H1 := Lib.hid h1
  have hbs : W.heap.size + 1 = W.heap.size + 1 := rfl
  generalize W.heap.size + 1 = b at H1 l1 hbs ⊢
  obtain ⟨F1, f1, f2, f3⟩ := h1
  have H2 := Lib.hid (show hw W w1 b (1 + R) (([] : List Int).drop 0) (.slice none 0 0) [] from by
    obtain ⟨F1, f1, f2, f3⟩ := H1.out
    exact ⟨F1, f1, World.ownsRow_nil _ _ _ _, fun k hk => ⟨f2 k hk, by simp [Value.ownBlock]⟩, f3⟩)
  clear f1 f2 f3 hbs
  obtain ⟨N, hN⟩ : ∃ N, N = 1 + R := ⟨_, rfl⟩
  have hNI : (1 + (R : Int)) = (N : Int) := by omega
  rw [← hN] at H2
  rw [hNI]
  clear hN hNI
  go_wp2_with fail
  go_loopw [10, 11, 12] (fun want first i wr => ORel W b N n want first i wr) (fun _ _ i _ => n - (intOf i).toNat)
  case atStart => exact ⟨0, 0, _, [], Nat.zero_le _, rfl, rfl, rfl, Nat.le_refl _, Nat.le_refl _, H2.out⟩
  case round =>
    obtain ⟨k, ff0, v, wl, hk, rfl, rfl, rfl, hf0, hwk, h3⟩ := hrel
    have H3 := Lib.hid h3
    have hbd := h3.bound
    rw [List.length_drop] at hbd
    obtain ⟨ad, cp, rfl⟩ := h3.form0
    clear h3
    by_cases hlt : k < n
    · rcases S1.out with h0 | ⟨b1, o1, rfl, hb1, hc1⟩
      · omega
      have r1 := sl_cell (hc1 k 0 hlt (by decide)) hb1 H3.out.below
      simp at r1
      have dn : decide ((k : Int) < (n : Int)) = true := by simp; omega
      by_cases hfit : wl.length - ff0 < N
      · have df : decide ((wl.length : Int) - (ff0 : Int) < (N : Int)) = true := by simp; omega
        have hfi : (wl.length : Int) - (ff0 : Int) < (N : Int) := by omega
        go_wp2_with fail
        refine (opush H3.out (ts k) (by rw [List.length_drop]; exact hfit)).mono ?_
        rintro e w4 ⟨rfl, h4⟩
        have r3 := sl_cell (hc1 k 0 hlt (by decide)) hb1 h4.below
        simp at r3
        have H4 := Lib.hid h4
        have hbase := h4.below.size
        clear h4 hc1 r1
        go_wp2_with (first | (at_builtin; refine wpList_append_own_at _ rfl _ _ 22 rfl W.heap.size 29 i0 (.int .u32 0) 1 4 Try.underlying22 hi hz0 hz1 hz2 rfl (by decide) _ _ _ rfl (H4.out.own.alloc _) ⟨w4.heap.size, 0, none⟩ 1 1 [.int .u32 (ts k)] rfl rfl ?c1 ?c2 (by unfold maxLen; omega) (by omega) (by simp; omega) ?_))
        case c1 => intro j u hj; rw [addr_add0]; exact (obj.new w4 29 [.int .u32 (ts k)]).cell j hj
        case c2 => simp [Value.oneCell']
        intro v' w5 ho hg hnil hloc
        have h5 := hw_append H4.out ho hg (by simpa using hloc)
        have HI := Lib.hid (show hw W w5 b N ((wl ++ [ts k]).drop ff0) v' (wl ++ [ts k]) by rw [List.drop_append_of_le_length hf0]; exact h5)
        obtain ⟨ad', cp', rfl⟩ := h5.form0
        have hf1 : ff0 ≤ (wl ++ [ts k]).length := by simp; omega
        have hw1 : (wl ++ [ts k]).length ≤ k + 1 := by simp; omega
        clear ho hg hnil hloc h5 r3 hfi
        generalize hwl2 : wl ++ [ts k] = wl2 at HI hf1 hw1 ⊢
        have HW2 := Lib.hid hwl2
        clear hwl2
        go_wp2_with fail
        go_loopw [11, 14] (fun f j wr => IRel W b N n2 (Value.slice ad' wl2.length cp') wl2 f j wr) (fun _ j _ => 5 - (intOf j).toNat)
        case atStart => exact ⟨0, ff0, by omega, rfl, rfl, by omega, HI.out⟩
        case round =>
          obtain ⟨j, ff, hj, rfl, rfl, hff, h6⟩ := hrel
          have H6 := Lib.hid h6
          clear h6
          by_cases hkp : k < n2
          · rcases S2.out with h0 | ⟨b2, o2, rfl, hb2, hc2⟩
            · omega
            have r2 := sl_cell (hc2 k 0 hkp (by decide)) hb2 H6.out.below
            simp at r2
            have hp := T2.out k hkp
            clear hc2
            have hkc : (k : Int) < (n2 : Int) := by omega
            have dk : decide ((k : Int) < (n2 : Int)) = true := by simp; omega
            have hp5 : 0 ≤ ps k % 5 ∧ ps k % 5 ≤ 4 := by omega
            by_cases hjp : (j : Int) < ps k % 5
            · by_cases hlt2 : ff < wl2.length
              · obtain ⟨g, cpp, hgc⟩ := H6.out.form (by omega)
                cases hgc
                have H7 := Lib.hid (H6.out.cons hlt2)
                have dl : decide ((ff : Int) < (wl2.length : Int)) = true := by simp; omega
                have e1 : (wl2[ff]'hlt2 != wl2[ff]'hlt2) = false := by simp
                have hfi : (ff : Int) < (wl2.length : Int) := by omega
                go_wp2_with fail
                refine (opop H7.out).mono ?_
                rintro e w7 ⟨rfl, h7⟩
                have c7 := h7.at hlt2
                have H8 := Lib.hid h7
                clear h7
                go_wp2_with fail
                go_roundw
                case rel => exact ⟨j + 1, ff + 1, by omega, by go_num, by go_num, by omega, H8.out⟩
                case measure => simp [intOf]; omega
              · have H7 := Lib.hid (H6.out.empty hlt2)
                have dl : decide ((ff : Int) < (wl2.length : Int)) = false := by simp; omega
                have hfi : ¬ (ff : Int) < (wl2.length : Int) := by omega
                go_wp2_with fail
                refine (oempty H7.out).mono ?_
                rintro e w7 ⟨rfl, rfl⟩
                go_wp2_with fail
                go_roundw
                case rel => exact ⟨j + 1, ff, by omega, by go_num, rfl, by omega, H6.out⟩
                case measure => simp [intOf]; omega
            · have djp : decide ((j : Int) < ps k % 5) = false := by simp; omega
              go_wp2_with fail
              go_roundw
              case rel => exact ⟨k + 1, ff, (Value.slice ad' wl2.length cp'), wl2, by omega, rfl, rfl, by go_num, by omega, by omega, H6.out⟩
              case measure => simp [intOf]; omega
          · have dk : decide ((k : Int) < (n2 : Int)) = false := by simp; omega
            go_wp2_with fail
            go_roundw
            case rel => exact ⟨k + 1, ff, (Value.slice ad' wl2.length cp'), wl2, by omega, rfl, rfl, by go_num, by omega, by omega, H6.out⟩
            case measure => simp [intOf]; omega
      · have df : decide ((wl.length : Int) - (ff0 : Int) < (N : Int)) = false := by simp; omega
        have hfi : ¬ (wl.length : Int) - (ff0 : Int) < (N : Int) := by omega
        go_wp2_with fail
        refine (hfullU H3.out.held (ts k) (by rw [List.length_drop]; exact hfit)).mono ?_
        rintro e w4 ⟨rfl, rfl⟩
        have HI := Lib.hid H3.out
        clear hc1 r1 hfi
        go_wp2_with fail
        go_loopw [11, 14] (fun f j wr => IRel W b N n2 (Value.slice ad wl.length cp) wl f j wr) (fun _ j _ => 5 - (intOf j).toNat)
        case atStart => exact ⟨0, ff0, by omega, rfl, rfl, by omega, HI.out⟩
        case round =>
          obtain ⟨j, ff, hj, rfl, rfl, hff, h6⟩ := hrel
          have H6 := Lib.hid h6
          clear h6
          by_cases hkp : k < n2
          · rcases S2.out with h0 | ⟨b2, o2, rfl, hb2, hc2⟩
            · omega
            have r2 := sl_cell (hc2 k 0 hkp (by decide)) hb2 H6.out.below
            simp at r2
            have hp := T2.out k hkp
            clear hc2
            have hkc : (k : Int) < (n2 : Int) := by omega
            have dk : decide ((k : Int) < (n2 : Int)) = true := by simp; omega
            have hp5 : 0 ≤ ps k % 5 ∧ ps k % 5 ≤ 4 := by omega
            by_cases hjp : (j : Int) < ps k % 5
            · by_cases hlt2 : ff < wl.length
              · obtain ⟨g, cpp, hgc⟩ := H6.out.form (by omega)
                cases hgc
                have H7 := Lib.hid (H6.out.cons hlt2)
                have dl : decide ((ff : Int) < (wl.length : Int)) = true := by simp; omega
                have e1 : (wl[ff]'hlt2 != wl[ff]'hlt2) = false := by simp
                have hfi : (ff : Int) < (wl.length : Int) := by omega
                go_wp2_with fail
                refine (opop H7.out).mono ?_
                rintro e w7 ⟨rfl, h7⟩
                have c7 := h7.at hlt2
                have H8 := Lib.hid h7
                clear h7
                go_wp2_with fail
                go_roundw
                case rel => exact ⟨j + 1, ff + 1, by omega, by go_num, by go_num, by omega, H8.out⟩
                case measure => simp [intOf]; omega
              · have H7 := Lib.hid (H6.out.empty hlt2)
                have dl : decide ((ff : Int) < (wl.length : Int)) = false := by simp; omega
                have hfi : ¬ (ff : Int) < (wl.length : Int) := by omega
                go_wp2_with fail
                refine (oempty H7.out).mono ?_
                rintro e w7 ⟨rfl, rfl⟩
                go_wp2_with fail
                go_roundw
                case rel => exact ⟨j + 1, ff, by omega, by go_num, rfl, by omega, H6.out⟩
                case measure => simp [intOf]; omega
            · have djp : decide ((j : Int) < ps k % 5) = false := by simp; omega
              go_wp2_with fail
              go_roundw
              case rel => exact ⟨k + 1, ff, (Value.slice ad wl.length cp), wl, by omega, rfl, rfl, by go_num, by omega, by omega, H6.out⟩
              case measure => simp [intOf]; omega
          · have dk : decide ((k : Int) < (n2 : Int)) = false := by simp; omega
            go_wp2_with fail
            go_roundw
            case rel => exact ⟨k + 1, ff, (Value.slice ad wl.length cp), wl, by omega, rfl, rfl, by go_num, by omega, by omega, H6.out⟩
            case measure => simp [intOf]; omega
    · have dn : decide ((k : Int) < (n : Int)) = false := by simp; omega
      go_wp2_with fail
      go_loopw [11] (fun f wr => LRel W b N (Value.slice ad wl.length cp) wl f wr) (fun f _ => wl.length - (intOf f).toNat)
      case atStart => exact ⟨ff0, rfl, hf0, H3.out⟩
      case round =>
        obtain ⟨ff, rfl, hff, h6⟩ := hrel
        have H6 := Lib.hid h6
        clear h6
        by_cases hlt2 : ff < wl.length
        · obtain ⟨g, cp', hgc⟩ := H6.out.form (by omega)
          cases hgc
          have H7 := Lib.hid (H6.out.cons hlt2)
          have e1 : (wl[ff]'hlt2 != wl[ff]'hlt2) = false := by simp
          have hfi : (ff : Int) < (wl.length : Int) := by omega
          go_wp2_with fail
          refine (opop H7.out).mono ?_
          rintro e w7 ⟨rfl, h7⟩
          have c7 := h7.at hlt2
          have H8 := Lib.hid h7
          clear h7
          go_wp2_with fail
          go_roundw
          case rel => exact ⟨ff + 1, by go_num, by omega, H8.out⟩
          case measure => simp [intOf]; omega
        · have H7 := Lib.hid (H6.out.empty hlt2).held
          go_wp2_with fail
          refine (hlenU H7.out).mono ?_
          rintro e w7 ⟨rfl, rfl⟩
          go_wp2_with fail
          refine (hroomU H7.out).mono ?_
          rintro e w8 ⟨rfl, h8, t8⟩
          have H8 := Lib.hid h8
          clear h8 t8
          go_wp2_with (go_at_call 10; refine (works_any _).mono ?_; rintro e w9 ⟨rfl, g9⟩)
          go_ret
          exact ⟨rfl, below_works H8.out.below g9⟩

theorem ringOrder.walk (W : World) (r : Int) (wr : (Lit.int .u8 r).wf = true) (v1 : Value) (x1 : Nat × (Nat → Int)) (ho1 : U32s W v1 x1) (v2 : Value) (x2 : Nat × (Nat → Int)) (ho2 : U8s W v2 x2) :
    Calls Try.prog 3 #[.int .u8 r, v1, v2] W fun e w' => e = .returned (.bool true) ∧ Below W.heap.size W w' := by
  by_cases hn1 : x1.1 ≤ 300
  · by_cases hn2 : x2.1 ≤ 300
    · exact order_good r (bounds_u8 wr) v1 v2 x1 x2 W ho1 ho2 hn1 hn2
    · obtain ⟨n, f⟩ := x1
      obtain ⟨m, g⟩ := x2
      obtain ⟨⟨a1, cap1, rfl, hcap1, hcap1', hsl1⟩, hts1⟩ := ho1
      obtain ⟨⟨a2, cap2, rfl, hcap2, hcap2', hsl2⟩, hts2⟩ := ho2
      simp only at hn1 hn2
      have hn3 : 300 < m := by omega
      clear hsl1 hsl2 hts1 hts2 hn2 wr
      go_enter Try.func3, Try.ntmps3
      go_wp2_with (go_at_call 10; refine (works_any _).mono ?_; rintro e w9 ⟨rfl, g9⟩)
      go_ret
      exact ⟨rfl, g9⟩
  · obtain ⟨n, f⟩ := x1
    obtain ⟨m, g⟩ := x2
    obtain ⟨⟨a1, cap1, rfl, hcap1, hcap1', hsl1⟩, hts1⟩ := ho1
    obtain ⟨⟨a2, cap2, rfl, hcap2, hcap2', hsl2⟩, hts2⟩ := ho2
    simp only at hn1
    have hn3 : 300 < n := by omega
    clear hsl1 hsl2 hts1 hts2 hn1 wr
    go_enter Try.func3, Try.ntmps3
    go_wp2_with (go_at_call 10; refine (works_any _).mono ?_; rintro e w9 ⟨rfl, g9⟩)
    go_ret
    exact ⟨rfl, g9⟩
end Go.Proofs.Ytplbgfjemcpcpaa
