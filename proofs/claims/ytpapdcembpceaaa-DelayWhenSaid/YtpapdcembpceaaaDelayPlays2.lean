/- DelayPlays whole; DelayNil. No condition. -/
import Derived.Test.YtpapdcembpceaaaDelayPlays
namespace Go.Proofs.Ytpapdcembpceaaa
open Go.RowKit Go.ChangeShapes Go.WideShapes Go.Deep
set_option linter.unusedVariables false
set_option linter.unusedSimpArgs false

set_option maxRecDepth 100000 in
set_option maxHeartbeats 8000000 in
theorem plays_bad (t : Int) (hf : ¬ (0 ≤ t ∧ t ≤ 1048576)) (v : Value) (x : Nat × (Nat → Int) × (Nat → Int) × (Nat → Bool)) (W : World) (ho : Ops W v x) (hn : x.1 ≤ 300) :
    Calls Try.prog 3 #[.int .i64 t, v] W fun e w' => e = .returned (.bool true) ∧ Below W.heap.size W w' := by
  obtain ⟨n, ks, ts, us⟩ := x
  obtain ⟨⟨a, cap, rfl, hcap, hcap2, hsl⟩, hts⟩ := ho
  simp only at hn hts hsl hcap
  have HSL := Lib.hid hsl
  have HTS := Lib.hid hts
  have HF := Lib.hid hf
  clear hsl hts hf
  go_enter Try.func3, Try.ntmps3
  go_wp2_with fail
  refine (new_any_bad t HF.out _).mono ?_
  rintro e x1 ⟨rfl, rfl⟩
  go_wp2_with fail
  refine (new_ref_bad t HF.out _).mono ?_
  rintro e x2 ⟨rfl, rfl⟩
  go_wp2_with fail
  go_loopw [9] (fun i wr => ∃ k : Nat, k ≤ n ∧ i = .int .i64 (k : Int) ∧ Below W.heap.size W wr) (fun i _ => n - (intOf i).toNat)
  case atStart => exact ⟨0, Nat.zero_le _, rfl, Below.refl _ _⟩
  case round =>
    obtain ⟨k, hk, rfl, hbel⟩ := hrel
    have HB := Lib.hid hbel
    clear hbel
    by_cases hlt : k < n
    · rcases HSL.out with h0 | ⟨b, off, rfl, hb, hc⟩
      · omega
      have hr0 := sl_cell (hc k 0 hlt (by decide)) hb HB.out
      have hr1 := sl_cell (hc k 1 hlt (by decide)) hb HB.out
      have hr2 := sl_cell (hc k 2 hlt (by decide)) hb HB.out
      simp at hr0 hr1 hr2
      have ht := (HTS.out k hlt).2
      have hbne : b ≠ W.heap.size := by omega
      clear hc
      by_cases k0 : ks k = 0
      · rw [k0] at hr0
        clear k0
        go_wp2_with fail
        go_region_held3 (fun w' => w'.cell? ⟨b, off + k * 3 + 1, none⟩ = some (.int .i64 (ts k)) ∧ w'.cell? ⟨b, off + k * 3 + 2, none⟩ = some (.bool (us k))) (first | (simp [go_sem, *]; done) | assumption) (first
          | (go_at_call 12; refine (packet_any_nil _ _ _).mono ?_; rintro e w3 ⟨rfl, rfl⟩))
        go_wp2_with fail
        go_region_held3 (fun w' => w'.cell? ⟨b, off + k * 3 + 1, none⟩ = some (.int .i64 (ts k)) ∧ w'.cell? ⟨b, off + k * 3 + 2, none⟩ = some (.bool (us k))) (first | (simp [go_sem, *]; done) | assumption) (first
          | (go_at_call 13; refine (packet_ref_nil _ _ _).mono ?_; rintro e w3 ⟨rfl, rfl⟩))
        go_wp2_with fail
        refine (when_any_nil _).mono ?_
        rintro e x3 ⟨rfl, rfl⟩
        go_wp2_with fail
        refine (when_ref_nil _).mono ?_
        rintro e x4 ⟨rfl, rfl⟩
        go_wp2_with fail
        go_region_held3 (fun w' => w'.cell? ⟨b, off + k * 3 + 1, none⟩ = some (.int .i64 (ts k))) (first | (simp [go_sem, *]; done) | assumption) (first
          | (go_at_call 18; refine (due_any_nil _ _).mono ?_; rintro e w50 ⟨rfl, g50⟩; have q50 := only_cell (only_some g50 (some W.heap.size)) (by exact hr1) hbne; have G50 := Lib.hid g50; clear g50)
          | (go_at_call 19; refine (due_ref_nil _ _).mono ?_; rintro e w51 ⟨rfl, g51⟩; have q51 := only_cell (only_some g51 (some W.heap.size)) q50 hbne; have G51 := Lib.hid g51; clear g51))
        go_wp2_with fail
        go_roundw
        case rel => exact ⟨k + 1, by omega, by go_num, below_none (below_none HB.out.drew.drew.drew G50.out) G51.out⟩
        case measure => simp [intOf]; omega
      · by_cases k1 : ks k = 1
        · rw [k1] at hr0
          clear k0 k1
          go_wp2_with fail
          refine (sent_any_nil _).mono ?_
          rintro e x5 ⟨rfl, rfl⟩
          go_wp2_with fail
          refine (sent_ref_nil _).mono ?_
          rintro e x6 ⟨rfl, rfl⟩
          go_wp2_with fail
          refine (when_any_nil _).mono ?_
          rintro e x7 ⟨rfl, rfl⟩
          go_wp2_with fail
          refine (when_ref_nil _).mono ?_
          rintro e x8 ⟨rfl, rfl⟩
          go_wp2_with fail
          go_region_held3 (fun w' => w'.cell? ⟨b, off + k * 3 + 1, none⟩ = some (.int .i64 (ts k))) (first | (simp [go_sem, *]; done) | assumption) (first
            | (go_at_call 18; refine (due_any_nil _ _).mono ?_; rintro e w50 ⟨rfl, g50⟩; have q50 := only_cell (only_some g50 (some W.heap.size)) (by exact hr1) hbne; have G50 := Lib.hid g50; clear g50)
            | (go_at_call 19; refine (due_ref_nil _ _).mono ?_; rintro e w51 ⟨rfl, g51⟩; have q51 := only_cell (only_some g51 (some W.heap.size)) q50 hbne; have G51 := Lib.hid g51; clear g51))
          go_wp2_with fail
          go_roundw
          case rel => exact ⟨k + 1, by omega, by go_num, below_none (below_none HB.out.drew G50.out) G51.out⟩
          case measure => simp [intOf]; omega
        · have z0 : (ks k == 0) = false := by simpa using k0
          have z1 : (ks k == 1) = false := by simpa using k1
          clear k0 k1
          go_wp2_with fail
          refine (when_any_nil _).mono ?_
          rintro e x9 ⟨rfl, rfl⟩
          go_wp2_with fail
          refine (when_ref_nil _).mono ?_
          rintro e x10 ⟨rfl, rfl⟩
          go_wp2_with fail
          go_region_held3 (fun w' => w'.cell? ⟨b, off + k * 3 + 1, none⟩ = some (.int .i64 (ts k))) (first | (simp [go_sem, *]; done) | assumption) (first
            | (go_at_call 18; refine (due_any_nil _ _).mono ?_; rintro e w50 ⟨rfl, g50⟩; have q50 := only_cell (only_some g50 (some W.heap.size)) (by exact hr1) hbne; have G50 := Lib.hid g50; clear g50)
            | (go_at_call 19; refine (due_ref_nil _ _).mono ?_; rintro e w51 ⟨rfl, g51⟩; have q51 := only_cell (only_some g51 (some W.heap.size)) q50 hbne; have G51 := Lib.hid g51; clear g51))
          go_wp2_with fail
          go_roundw
          case rel => exact ⟨k + 1, by omega, by go_num, below_none (below_none HB.out.drew G50.out) G51.out⟩
          case measure => simp [intOf]; omega
    · go_wp2_with (go_at_call 9; refine (works_any _).mono ?_; rintro e w99 ⟨rfl, g99⟩)
      go_ret
      exact ⟨rfl, below_none HB.out g99⟩

theorem delayPlays.walk (W : World) (t : Int) (wt : (Lit.int .i64 t).wf = true) (v : Value) (x : Nat × (Nat → Int) × (Nat → Int) × (Nat → Bool)) (ho : Ops W v x) :
    Calls Try.prog 3 #[.int .i64 t, v] W fun e w' => e = .returned (.bool true) ∧ Below W.heap.size W w' := by
  by_cases hn : x.1 ≤ 300
  · by_cases hf : 0 ≤ t ∧ t ≤ 1048576
    · exact plays_good t hf v x W ho hn
    · exact plays_bad t hf v x W ho hn
  · obtain ⟨n, ks, ts, us⟩ := x
    obtain ⟨⟨a, cap, rfl, hcap, hcap2, hsl⟩, hts⟩ := ho
    simp only at hn
    have hn2 : 300 < n := by omega
    clear hsl hts hn
    go_enter Try.func3, Try.ntmps3
    go_wp2_with (go_at_call 9; refine (works_any _).mono ?_; rintro e w99 ⟨rfl, g99⟩)
    go_ret
    exact ⟨rfl, below_none (Below.refl _ _) g99⟩

set_option maxRecDepth 100000 in
set_option maxHeartbeats 2000000 in
theorem delayNil.walk (W : World) (t : Int) (wt : (Lit.int .i64 t).wf = true) (now : Int) (wn : (Lit.int .i64 now).wf = true) :
    Calls Try.prog 8 #[.int .i64 t, .int .i64 now] W fun e w' => e = .returned (.bool true) ∧ Below W.heap.size W w' := by
  by_cases hf : 0 ≤ t ∧ t ≤ 1048576
  · have f1 := hf.1
    have f2 := hf.2
    have HF := Lib.hid hf
    clear hf
    go_enter Try.func8, Try.ntmps8
    go_wp2_with fail
    refine (packet_any_nil _ _ _).mono ?_
    rintro e x11 ⟨rfl, rfl⟩
    go_wp2_with fail
    refine (sent_any_nil _).mono ?_
    rintro e x12 ⟨rfl, rfl⟩
    go_wp2_with fail
    refine (when_any_nil _).mono ?_
    rintro e x13 ⟨rfl, rfl⟩
    go_wp2_with fail
    refine (new_any t HF.out _).mono ?_
    rintro e w3 ⟨rfl, o3, g3⟩
    have O3 := Lib.hid o3
    have G3 := Lib.hid g3
    clear o3 g3
    go_wp2_with fail
    refine (due_any_nil _ _).mono ?_
    rintro e w4 ⟨rfl, g4⟩
    have G4 := Lib.hid g4
    clear g4
    go_wp2_with (go_at_call 9; refine (works_any _).mono ?_; rintro e w99 ⟨rfl, g99⟩)
    go_ret
    exact ⟨rfl, below_none (below_none (below_none (Below.refl _ _) G3.out) G4.out) g99⟩
  · have HF := Lib.hid hf
    by_cases f1 : t < 0
    · clear hf
      go_enter Try.func8, Try.ntmps8
      go_wp2_with fail
      refine (packet_any_nil _ _ _).mono ?_
      rintro e x14 ⟨rfl, rfl⟩
      go_wp2_with fail
      refine (sent_any_nil _).mono ?_
      rintro e x15 ⟨rfl, rfl⟩
      go_wp2_with fail
      refine (when_any_nil _).mono ?_
      rintro e x16 ⟨rfl, rfl⟩
      go_wp2_with fail
      refine (new_any_bad t HF.out _).mono ?_
      rintro e x17 ⟨rfl, rfl⟩
      go_wp2_with fail
      refine (due_any_nil _ _).mono ?_
      rintro e w4 ⟨rfl, g4⟩
      have G4 := Lib.hid g4
      clear g4
      go_wp2_with (go_at_call 9; refine (works_any _).mono ?_; rintro e w99 ⟨rfl, g99⟩)
      go_ret
      exact ⟨rfl, below_none (below_none (Below.refl _ _) G4.out) g99⟩
    · have f2 : 1048576 < t := by omega
      have f3 : decide (t ≤ 1048576) = false := by simp; omega
      clear hf
      go_enter Try.func8, Try.ntmps8
      go_wp2_with fail
      refine (packet_any_nil _ _ _).mono ?_
      rintro e x18 ⟨rfl, rfl⟩
      go_wp2_with fail
      refine (sent_any_nil _).mono ?_
      rintro e x19 ⟨rfl, rfl⟩
      go_wp2_with fail
      refine (when_any_nil _).mono ?_
      rintro e x20 ⟨rfl, rfl⟩
      go_wp2_with fail
      refine (new_any_bad t HF.out _).mono ?_
      rintro e x21 ⟨rfl, rfl⟩
      go_wp2_with fail
      refine (due_any_nil _ _).mono ?_
      rintro e w4 ⟨rfl, g4⟩
      have G4 := Lib.hid g4
      clear g4
      go_wp2_with (go_at_call 9; refine (works_any _).mono ?_; rintro e w99 ⟨rfl, g99⟩)
      go_ret
      exact ⟨rfl, below_none (below_none (Below.refl _ _) G4.out) g99⟩
end Go.Proofs.Ytpapdcembpceaaa
