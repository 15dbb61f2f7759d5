/- The walk of DelayPlays. No condition. -/
import Derived.Test.YtpapdcembpceaaaDelayWorks
namespace Go.Proofs.Ytpapdcembpceaaa
open Go.RowKit Go.ChangeShapes Go.WideShapes Go.Deep
set_option linter.unusedVariables false
set_option linter.unusedSimpArgs false

def PRel (W : World) (b1 b2 n : Nat) (i : Value) (wr : World) : Prop :=
  ∃ (k : Nat) (st : DS), k ≤ n ∧ i = .int .i64 (k : Int) ∧ st.ok ∧ obj wr b1 45 st.cells ∧ obj wr b2 47 st.cells ∧ Below W.heap.size W wr

set_option maxRecDepth 100000 in
set_option maxHeartbeats 8000000 in
theorem plays_good (t : Int) (hf : 0 ≤ t ∧ t ≤ 1048576) (v : Value) (x : Nat × (Nat → Int) × (Nat → Int) × (Nat → Bool)) (W : World) (ho : Ops W v x) (hn : x.1 ≤ 300) :
    Calls Try.prog 3 #[.int .i64 t, v] W fun e w' => e = .returned (.bool true) ∧ Below W.heap.size W w' := by
  obtain ⟨n, ks, ts, us⟩ := x
  obtain ⟨⟨a, cap, rfl, hcap, hcap2, hsl⟩, hts⟩ := ho
  simp only at hn hts hsl hcap
  have HSL := Lib.hid hsl
  have HTS := Lib.hid hts
  have HF := Lib.hid hf
  clear hsl hts hf
  go_enter Try.func3, Try.ntmps3
  go_wp2_with fail
  refine (new_any t HF.out _).mono ?_
  rintro e w1 ⟨rfl, o1, g1⟩
  have O1 := Lib.hid o1
  have G1 := Lib.hid g1
  clear o1 g1
  go_wp2_with fail
  refine (new_ref t HF.out _).mono ?_
  rintro e w2 ⟨rfl, o2, g2⟩
  have O2 := Lib.hid o2
  have G2 := Lib.hid g2
  clear o2 g2
  go_wp2_with fail
  have hlt1 := O1.out.lt
  have hsz1 := G1.out.size
  go_loopw [9] (fun i wr => PRel W W.heap.size w1.heap.size n i wr) (fun i _ => n - (intOf i).toNat)
  case atStart =>
    exact ⟨0, DS.init t, Nat.zero_le _, rfl, dok_init HF.out, O1.out.kept G2.out (by simp), O2.out, below_none (below_none (Below.refl _ _) G1.out) G2.out⟩
  case round =>
    obtain ⟨k, st, hk, rfl, hok, h1, h2, hbel⟩ := hrel
    have HOK := Lib.hid hok
    have H1 := Lib.hid h1
    have H2 := Lib.hid h2
    have HB := Lib.hid hbel
    clear hok h1 h2 hbel
    have hne : W.heap.size ≠ w1.heap.size := by omega
    by_cases hlt : k < n
    · rcases HSL.out with h0 | ⟨b, off, rfl, hb, hc⟩
      · omega
      have hr0 := sl_cell (hc k 0 hlt (by decide)) hb HB.out
      have hr1 := sl_cell (hc k 1 hlt (by decide)) hb HB.out
      have hr2 := sl_cell (hc k 2 hlt (by decide)) hb HB.out
      simp at hr0 hr1 hr2
      have ht := (HTS.out k hlt).2
      have hbne : b ≠ W.heap.size := by omega
      have hbne2 : b ≠ w1.heap.size := by omega
      clear hc
      by_cases k0 : ks k = 0
      · rw [k0] at hr0
        clear k0
        have HOK2 := Lib.hid (dok_packet HOK.out (ts k) (us k))
        go_wp2_with fail
        go_region_held3 (fun w' => w'.cell? ⟨b, off + k * 3 + 1, none⟩ = some (.int .i64 (ts k)) ∧ w'.cell? ⟨b, off + k * 3 + 2, none⟩ = some (.bool (us k))) (first | (simp [go_sem, *]; done) | assumption) (first
          | (go_at_call 12; refine (packet_any st HOK.out _ _ _ _ (by exact H1.out.drew)).mono ?_; rintro e w3 ⟨rfl, o3, g3⟩; have q31 := only_cell g3 (by exact hr1) hbne; have q32 := only_cell g3 (by exact hr2) hbne; have O3 := Lib.hid o3; have G3 := Lib.hid g3; clear o3 g3))
        have B3 := Lib.hid (H2.out.drew.kept G3.out (by simp; omega))
        go_wp2_with fail
        go_region_held3 (fun w' => w'.cell? ⟨b, off + k * 3 + 1, none⟩ = some (.int .i64 (ts k)) ∧ w'.cell? ⟨b, off + k * 3 + 2, none⟩ = some (.bool (us k))) (first | (simp [go_sem, *]; done) | assumption) (first
          | (go_at_call 13; refine (packet_ref st HOK.out _ _ _ _ (by exact B3.out.drew)).mono ?_; rintro e w4 ⟨rfl, o4, g4⟩; have q41 := only_cell g4 (by exact q31) hbne2; have q42 := only_cell g4 (by exact q32) hbne2; have O4 := Lib.hid o4; have G4 := Lib.hid g4; clear o4 g4))
        have A4 := Lib.hid (O3.out.drew.kept G4.out (by simp; omega))
        have HB4 := Lib.hid (below_only (below_only HB.out.drew G3.out (Nat.le_refl _)).drew G4.out (by omega))
        go_wp2_with fail
        refine (when_any (st.packet (ts k) (us k)) HOK2.out _ _ A4.out).mono ?_
        rintro e w5 ⟨rfl, g5⟩
        have G5 := Lib.hid g5
        clear g5
        have A5 := Lib.hid (A4.out.kept G5.out (by simp))
        have B5 := Lib.hid (O4.out.kept G5.out (by simp))
        have r5 := only_cell (only_some G5.out (some W.heap.size)) q41 hbne
        go_wp2_with fail
        refine (when_ref (st.packet (ts k) (us k)) HOK2.out _ _ B5.out).mono ?_
        rintro e w6 ⟨rfl, g6⟩
        have G6 := Lib.hid g6
        clear g6
        have A6 := Lib.hid (A5.out.kept G6.out (by simp))
        have B6 := Lib.hid (B5.out.kept G6.out (by simp))
        have r6 := only_cell (only_some G6.out (some W.heap.size)) r5 hbne
        go_wp2_with fail
        go_region_held3 (fun w' => w'.cell? ⟨b, off + k * 3 + 1, none⟩ = some (.int .i64 (ts k))) (first | (simp [go_sem, *]; done) | assumption) (first
          | (go_at_call 18; refine (due_any (st.packet (ts k) (us k)) HOK2.out _ _ _ (by exact A6.out.drew)).mono ?_; rintro e w50 ⟨rfl, g50⟩; have q50 := only_cell (only_some g50 (some W.heap.size)) (by exact r6) hbne; have G50 := Lib.hid g50; clear g50)
          | (go_at_call 19; refine (due_ref (st.packet (ts k) (us k)) HOK2.out _ _ _ (by exact B6.out.drew.kept G50.out (by simp))).mono ?_; rintro e w51 ⟨rfl, g51⟩; have q51 := only_cell (only_some g51 (some W.heap.size)) q50 hbne; have G51 := Lib.hid g51; clear g51))
        go_wp2_with fail
        go_roundw
        case rel => exact ⟨k + 1, (st.packet (ts k) (us k)), by omega, by go_num, HOK2.out, (A6.out.drew.kept G50.out (by simp)).kept G51.out (by simp), (B6.out.drew.kept G50.out (by simp)).kept G51.out (by simp), below_none (below_none (below_none (below_none HB4.out G5.out) G6.out).drew G50.out) G51.out⟩
        case measure => simp [intOf]; omega
      · by_cases k1 : ks k = 1
        · rw [k1] at hr0
          clear k0 k1
          have HOK2 := Lib.hid (dok_sent HOK.out)
          go_wp2_with fail
          refine (sent_any st _ _ H1.out).mono ?_
          rintro e w3 ⟨rfl, o3, g3⟩
          have O3 := Lib.hid o3
          have G3 := Lib.hid g3
          clear o3 g3
          have q31 := only_cell G3.out hr1 hbne
          have B3 := Lib.hid (H2.out.kept G3.out (by simp; omega))
          go_wp2_with fail
          refine (sent_ref st _ _ B3.out).mono ?_
          rintro e w4 ⟨rfl, o4, g4⟩
          have O4 := Lib.hid o4
          have G4 := Lib.hid g4
          clear o4 g4
          have q41 := only_cell G4.out q31 hbne2
          have A4 := Lib.hid (O3.out.kept G4.out (by simp; omega))
          have HB4 := Lib.hid (below_only (below_only HB.out G3.out (Nat.le_refl _)) G4.out (by omega))
          go_wp2_with fail
          refine (when_any st.sent HOK2.out _ _ A4.out).mono ?_
          rintro e w5 ⟨rfl, g5⟩
          have G5 := Lib.hid g5
          clear g5
          have A5 := Lib.hid (A4.out.kept G5.out (by simp))
          have B5 := Lib.hid (O4.out.kept G5.out (by simp))
          have r5 := only_cell (only_some G5.out (some W.heap.size)) q41 hbne
          go_wp2_with fail
          refine (when_ref st.sent HOK2.out _ _ B5.out).mono ?_
          rintro e w6 ⟨rfl, g6⟩
          have G6 := Lib.hid g6
          clear g6
          have A6 := Lib.hid (A5.out.kept G6.out (by simp))
          have B6 := Lib.hid (B5.out.kept G6.out (by simp))
          have r6 := only_cell (only_some G6.out (some W.heap.size)) r5 hbne
          go_wp2_with fail
          go_region_held3 (fun w' => w'.cell? ⟨b, off + k * 3 + 1, none⟩ = some (.int .i64 (ts k))) (first | (simp [go_sem, *]; done) | assumption) (first
            | (go_at_call 18; refine (due_any st.sent HOK2.out _ _ _ (by exact A6.out.drew)).mono ?_; rintro e w50 ⟨rfl, g50⟩; have q50 := only_cell (only_some g50 (some W.heap.size)) (by exact r6) hbne; have G50 := Lib.hid g50; clear g50)
            | (go_at_call 19; refine (due_ref st.sent HOK2.out _ _ _ (by exact B6.out.drew.kept G50.out (by simp))).mono ?_; rintro e w51 ⟨rfl, g51⟩; have q51 := only_cell (only_some g51 (some W.heap.size)) q50 hbne; have G51 := Lib.hid g51; clear g51))
          go_wp2_with fail
          go_roundw
          case rel => exact ⟨k + 1, st.sent, by omega, by go_num, HOK2.out, (A6.out.drew.kept G50.out (by simp)).kept G51.out (by simp), (B6.out.drew.kept G50.out (by simp)).kept G51.out (by simp), below_none (below_none (below_none (below_none HB4.out G5.out) G6.out).drew G50.out) G51.out⟩
          case measure => simp [intOf]; omega
        · have z0 : (ks k == 0) = false := by simpa using k0
          have z1 : (ks k == 1) = false := by simpa using k1
          clear k0 k1
          have q41 := hr1
          go_wp2_with fail
          refine (when_any st HOK.out _ _ H1.out).mono ?_
          rintro e w5 ⟨rfl, g5⟩
          have G5 := Lib.hid g5
          clear g5
          have A5 := Lib.hid (H1.out.kept G5.out (by simp))
          have B5 := Lib.hid (H2.out.kept G5.out (by simp))
          have r5 := only_cell (only_some G5.out (some W.heap.size)) q41 hbne
          go_wp2_with fail
          refine (when_ref st HOK.out _ _ B5.out).mono ?_
          rintro e w6 ⟨rfl, g6⟩
          have G6 := Lib.hid g6
          clear g6
          have A6 := Lib.hid (A5.out.kept G6.out (by simp))
          have B6 := Lib.hid (B5.out.kept G6.out (by simp))
          have r6 := only_cell (only_some G6.out (some W.heap.size)) r5 hbne
          go_wp2_with fail
          go_region_held3 (fun w' => w'.cell? ⟨b, off + k * 3 + 1, none⟩ = some (.int .i64 (ts k))) (first | (simp [go_sem, *]; done) | assumption) (first
            | (go_at_call 18; refine (due_any st HOK.out _ _ _ (by exact A6.out.drew)).mono ?_; rintro e w50 ⟨rfl, g50⟩; have q50 := only_cell (only_some g50 (some W.heap.size)) (by exact r6) hbne; have G50 := Lib.hid g50; clear g50)
            | (go_at_call 19; refine (due_ref st HOK.out _ _ _ (by exact B6.out.drew.kept G50.out (by simp))).mono ?_; rintro e w51 ⟨rfl, g51⟩; have q51 := only_cell (only_some g51 (some W.heap.size)) q50 hbne; have G51 := Lib.hid g51; clear g51))
          go_wp2_with fail
          go_roundw
          case rel => exact ⟨k + 1, st, by omega, by go_num, HOK.out, (A6.out.drew.kept G50.out (by simp)).kept G51.out (by simp), (B6.out.drew.kept G50.out (by simp)).kept G51.out (by simp), below_none (below_none (below_none (below_none HB.out G5.out) G6.out).drew G50.out) G51.out⟩
          case measure => simp [intOf]; omega
    · go_wp2_with (go_at_call 9; refine (works_any _).mono ?_; rintro e w99 ⟨rfl, g99⟩)
      go_ret
      exact ⟨rfl, below_none HB.out g99⟩
end Go.Proofs.Ytpapdcembpceaaa
