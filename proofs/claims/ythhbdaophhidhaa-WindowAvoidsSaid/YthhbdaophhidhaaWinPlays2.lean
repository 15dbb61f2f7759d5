/- WindowPlays whole; WindowNil. No condition. -/
import Derived.Test.YthhbdaophhidhaaWinPlays
import Derived.Lib.SmallJoins
namespace Go.Proofs.Ythhbdaophhidhaa
open Go.RowKit Go.ChangeShapes Go.WideShapes Go.Deep Go.Joins
set_option linter.unusedVariables false
set_option linter.unusedSimpArgs false

set_option maxRecDepth 100000 in
set_option maxHeartbeats 8000000 in
theorem plays_bad (f l : Int) (hb : -9223372036854775808 ≤ f ∧ f ≤ 9223372036854775807) (hf : ¬ wfits f l) (v : Value) (x : Nat × (Nat → Int) × (Nat → Int) × (Nat → Bool)) (W : World) (ho : Ops W v x) (hn : x.1 ≤ 500) :
    Calls Try.prog 3 #[.int .i64 f, .int .i64 l, v] W fun e w' => e = .returned (.bool true) ∧ Below W.heap.size W w' := by
  obtain ⟨n, ks, ts, us⟩ := x
  obtain ⟨⟨a, cap, rfl, hcap, hcap2, hsl⟩, hts⟩ := ho
  simp only at hn hts hsl hcap
  have HSL := Lib.hid hsl
  have HF := Lib.hid hf
  have HBD := Lib.hid hb
  clear hsl hts hf hb
  go_enter Try.func3, Try.ntmps3
  go_wp2_with fail
  refine (wnew_any_bad f l HBD.out HF.out _).mono ?_
  rintro e x1 ⟨rfl, rfl⟩
  go_wp2_with fail
  refine (wnew_ref_bad f l HBD.out HF.out _).mono ?_
  rintro e x2 ⟨rfl, rfl⟩
  go_wp2_with fail
  go_loopw [11] (fun i wr => ∃ k : Nat, k ≤ n ∧ i = .int .i64 (k : Int) ∧ Below W.heap.size W wr) (fun i _ => n - (intOf i).toNat)
  case atStart => exact ⟨0, Nat.zero_le _, rfl, Below.refl _ _⟩
  case round =>
    obtain ⟨k, hk, rfl, hbel⟩ := hrel
    have HB := Lib.hid hbel
    clear hbel
    by_cases hlt : k < n
    · rcases HSL.out with h0 | ⟨b, off, rfl, hb, hc⟩
      · omega
      have hr0 := sl_cell (hc k 0 hlt (by decide)) hb HB.out
      have hr1 := sl_cell (hc k 1 hlt (by decide)) hb HB.out
      have hr2 := sl_cell (hc k 2 hlt (by decide)) hb HB.out
      simp at hr0 hr1 hr2
      have hbne : b ≠ W.heap.size := by omega
      clear hc
      go_wp2_with fail
      refine (does_any_nil (ks k) (ts k) (us k) _).mono ?_
      rintro e w3 ⟨rfl, g3⟩
      have G3 := Lib.hid g3
      have q0 := only_cell (only_some g3 (some W.heap.size)) hr0 hbne
      have q1 := only_cell (only_some g3 (some W.heap.size)) hr1 hbne
      have q2 := only_cell (only_some g3 (some W.heap.size)) hr2 hbne
      clear g3
      go_wp2_with fail
      refine (does_ref_nil (ks k) (ts k) (us k) _).mono ?_
      rintro e w4 ⟨rfl, g4⟩
      have G4 := Lib.hid g4
      clear g4
      go_wp2_with fail
      refine (size_any_nil _).mono ?_
      rintro e x3 ⟨rfl, rfl⟩
      go_wp2_with fail
      refine (size_ref_nil _).mono ?_
      rintro e x4 ⟨rfl, rfl⟩
      go_wp2_with fail
      refine (thresh_any_nil _).mono ?_
      rintro e x5 ⟨rfl, rfl⟩
      go_wp2_with fail
      refine (thresh_ref_nil _).mono ?_
      rintro e x6 ⟨rfl, rfl⟩
      go_wp2_with fail
      go_roundw
      case rel => exact ⟨k + 1, by omega, by go_num, below_none (below_none HB.out G3.out) G4.out⟩
      case measure => simp [intOf]; omega
    · go_wp2_with (go_at_call 9; refine (works_any _).mono ?_; rintro e w99 ⟨rfl, g99⟩)
      go_ret
      exact ⟨rfl, below_none HB.out g99⟩

theorem windowPlays.walk (W : World) (f : Int) (wf : (Lit.int .i64 f).wf = true) (l : Int) (wl : (Lit.int .i64 l).wf = true) (v : Value) (x : Nat × (Nat → Int) × (Nat → Int) × (Nat → Bool)) (ho : Ops W v x) :
    Calls Try.prog 3 #[.int .i64 f, .int .i64 l, v] W fun e w' => e = .returned (.bool true) ∧ Below W.heap.size W w' := by
  by_cases hn : x.1 ≤ 500
  · by_cases hf : wfits f l
    · exact plays_good f l hf v x W ho hn
    · exact plays_bad f l (bounds_i64 wf) hf v x W ho hn
  · obtain ⟨n, ks, ts, us⟩ := x
    obtain ⟨⟨a, cap, rfl, hcap, hcap2, hsl⟩, hts⟩ := ho
    simp only at hn
    have hn2 : 500 < n := by omega
    clear hsl hts hn
    go_enter Try.func3, Try.ntmps3
    go_wp2_with (go_at_call 9; refine (works_any _).mono ?_; rintro e w99 ⟨rfl, g99⟩)
    go_ret
    exact ⟨rfl, below_none (Below.refl _ _) g99⟩

def OpenedOp (v : Value) (x : Int × Int × Bool) : Prop := v = .agg #[.int .i64 x.1, .int .i64 x.2.1, .bool x.2.2]
theorem opened33 {H : Type} {enc : TypeId × Value → H} {W : World} {r : Reach} {base : Nat} {v : Value} {d : DataW H} {p : List MemPlace}
    (hv : Value.okWide Try.prog W r base 33 v) (h : DataW.Trod enc Try.prog W 0 (fun _ => true) true 33 v d p) : ∃ x, OpenedOp v x := by
  obtain ⟨c0, c1, c2, y0, y1, y2, m, rfl, rfl, rfl, hy0, hy1, hy2⟩ := open_agg3 Try.underlying33 (by kernel_rfl) (by kernel_rfl) hv h
  obtain ⟨a, rfl, wa⟩ := trod_int1 Try.underlying3 hy0
  obtain ⟨b, rfl, wb⟩ := trod_int1 Try.underlying3 hy1
  obtain ⟨c, rfl⟩ := trod_bool1 Try.underlying4 hy2
  exact ⟨(a, b, c), rfl⟩

set_option maxRecDepth 100000 in
set_option maxHeartbeats 2000000 in
theorem windowNil.walk (W : World) (v : Value) (x : Int × Int × Bool) (o : OpenedOp v x) :
    Calls Try.prog 8 #[v] W fun e w' => e = .returned (.bool true) ∧ Below W.heap.size W w' := by
  obtain ⟨a, b, c⟩ := x
  unfold OpenedOp at o
  subst o
  simp only
  have G0 := Lib.hid (only_alloc (only_refl W none) (.cells #[.int .i64 a, .int .i64 b, .bool c] 33))
  go_enter Try.func8, Try.ntmps8
  go_wp2_with fail
  refine (does_any_nil a b c _).mono ?_
  rintro e w3 ⟨rfl, g3⟩
  have G3 := Lib.hid g3
  clear g3
  go_wp2_with fail
  refine (size_any_nil _).mono ?_
  rintro e x7 ⟨rfl, rfl⟩
  go_wp2_with fail
  refine (thresh_any_nil _).mono ?_
  rintro e x8 ⟨rfl, rfl⟩
  go_wp2_with (go_at_call 9; refine (works_any _).mono ?_; rintro e w99 ⟨rfl, g99⟩)
  go_ret
  exact ⟨rfl, below_none (below_none (below_none (Below.refl _ _) G0.out) G3.out) g99⟩
end Go.Proofs.Ythhbdaophhidhaa
