/- The walk of DelaySoon. No condition. -/
import Derived.Test.YtpapdcembpceaaaDelayHurries
namespace Go.Proofs.Ytpapdcembpceaaa
open Go.RowKit Go.ChangeShapes Go.WideShapes Go.Deep
set_option linter.unusedVariables false
set_option linter.unusedSimpArgs false

/-- Bytes that came in. -/
def Small (W : World) (v : Value) (x : Nat × (Nat → Int)) : Prop :=
  IsSl W v x.1 1 (fun i _ => .int .u8 (x.2 i)) ∧ ∀ i, i < x.1 → 0 ≤ x.2 i ∧ x.2 i ≤ 255
theorem opened38 {H : Type} {enc : TypeId × Value → H} {W : World} {r : Reach} {base : Nat} {v : Value} {d : DataW H} {p : List MemPlace}
    (hv : Value.okWide Try.prog W r base 38 v) (h : DataW.Trod enc Try.prog W 0 (fun _ => true) true 38 v d p) : ∃ x, Small W v x := by
  obtain ⟨n, V, hsl, hV⟩ := openSl1 Try.underlying38 (by kernel_rfl) hv h
  have e1 : ∀ i, i < n → ∃ c : Int, V i 0 = .int .u8 c ∧ (Lit.int .u8 c).wf = true := fun i hi => by
    obtain ⟨m, y, hy⟩ := hV i hi
    exact trod_int1 Try.underlying5 hy
  obtain ⟨ts, hts⟩ := choose_lt e1
  refine ⟨(n, ts), isSl_congr hsl fun i j hi hj => ?_, fun i hi => bounds_u8 (hts i hi).2⟩
  have : j = 0 := by omega
  subst this
  rw [(hts i hi).1]

/-- What is held: h packets since the last Sent, the first of them at f. -/
def DS.holds (x : DS) (wait : Int) (h : Nat) (f now : Int) : Prop :=
  x.ok ∧ x.ticks = wait ∧ x.urgent = false ∧ x.many = min (h : Int) 2 ∧ (0 < h → x.first = f ∧ 0 ≤ f ∧ f ≤ now)
theorem holds_packet {x : DS} {wait : Int} {h : Nat} {f now : Int} (hh : x.holds wait h f now) (hn : 0 ≤ now ∧ now ≤ 300) (h0 : 0 < h) : (x.packet now false).holds wait (h + 1) f now := by
  obtain ⟨a, b, c, d, e⟩ := hh
  refine ⟨dok_packet a now false, b, by simp [DS.packet, c], by simp only [DS.packet]; omega, fun _ => ?_⟩
  have := e h0
  simp only [DS.packet]
  rw [if_neg (by omega)]
  exact this
theorem holds_first {x : DS} {wait : Int} {f now : Int} (hh : x.holds wait 0 f now) (hn : 0 ≤ now ∧ now ≤ 300) : (x.packet now false).holds wait (0 + 1) now now := by
  obtain ⟨a, b, c, d, e⟩ := hh
  refine ⟨dok_packet a now false, b, by simp [DS.packet, c], by simp only [DS.packet]; omega, fun _ => ?_⟩
  simp only [DS.packet]
  rw [if_pos (by omega)]
  omega
theorem holds_none {x : DS} {wait f now : Int} (hh : x.holds wait 0 f now) : x.due now = false := by
  obtain ⟨a, b, c, d, e⟩ := hh
  simp [DS.due]; omega
theorem holds_many {x : DS} {wait f now : Int} {h : Nat} (hh : x.holds wait h f now) (h2 : 2 ≤ h) : x.due now = true := by
  obtain ⟨a, b, c, d, e⟩ := hh
  simp [DS.due]; omega
theorem holds_yes {x : DS} {wait f now : Int} (hh : x.holds wait 1 f now) (h2 : f + wait ≤ now) : x.due now = true := by
  obtain ⟨a, b, c, d, e⟩ := hh
  have := e (by decide)
  simp [DS.due]; omega
theorem holds_no {x : DS} {wait f now : Int} (hh : x.holds wait 1 f now) (h2 : now < f + wait) : x.due now = false := by
  obtain ⟨a, b, c, d, e⟩ := hh
  have := e (by decide)
  simp [DS.due, c]; omega
theorem holds_sent {x : DS} {wait f now : Int} {h : Nat} (hh : x.holds wait h f now) (f2 now2 : Int) : x.sent.holds wait 0 f2 now2 := by
  obtain ⟨a, b, c, d, e⟩ := hh
  exact ⟨dok_sent a, b, rfl, rfl, fun h => absurd h (by decide)⟩
theorem holds_later {x : DS} {wait f now : Int} {h : Nat} (hh : x.holds wait h f now) {now2 : Int} (hn : now ≤ now2) : x.holds wait h f now2 := by
  obtain ⟨a, b, c, d, e⟩ := hh
  exact ⟨a, b, c, d, fun h => by have := e h; omega⟩

def SRel (W : World) (b1 n : Nat) (wait : Int) (held first i : Value) (wr : World) : Prop :=
  ∃ (k h : Nat) (f : Int) (st : DS), k ≤ n ∧ h ≤ 1 ∧ (0 ≤ f ∧ f ≤ 300) ∧ i = .int .i64 (k : Int) ∧ held = .int .i64 (h : Int) ∧ first = .int .i64 f ∧ st.holds wait h f (k : Int) ∧ obj wr b1 45 st.cells ∧ Below W.heap.size W wr
def SIn (W : World) (b1 c : Nat) (wait now : Int) (held first i : Value) (wr : World) : Prop :=
  ∃ (j h : Nat) (f : Int) (st : DS), j ≤ c ∧ h ≤ j + 1 ∧ (0 ≤ f ∧ f ≤ 300) ∧ i = .int .i64 (j : Int) ∧ held = .int .i64 (h : Int) ∧ first = .int .i64 f ∧ st.holds wait h f now ∧ obj wr b1 45 st.cells ∧ Below W.heap.size W wr

set_option maxRecDepth 100000 in
set_option maxHeartbeats 16000000 in
theorem soon_good (t : Int) (ht : 0 ≤ t ∧ t ≤ 255) (v : Value) (x : Nat × (Nat → Int)) (W : World) (ho : Small W v x) (hn : x.1 ≤ 300) :
    Calls Try.prog 4 #[.int .u8 t, v] W fun e w' => e = .returned (.bool true) ∧ Below W.heap.size W w' := by
  obtain ⟨n, ts⟩ := x
  obtain ⟨⟨a, cap, rfl, hcap, hcap2, hsl⟩, hts⟩ := ho
  simp only at hn hts hsl hcap
  have HSL := Lib.hid hsl
  have HTS := Lib.hid hts
  clear hsl hts
  go_enter Try.func4, Try.ntmps4
  go_wp2_with fail
  refine (new_any (t % 101) (by omega) _).mono ?_
  rintro e w1 ⟨rfl, o1, g1⟩
  have O1 := Lib.hid o1
  have G1 := Lib.hid g1
  have hwt : 0 ≤ t % 101 ∧ t % 101 ≤ 100 := by omega
  clear o1 g1
  go_wp2_with fail
  generalize t % 101 = wait at *
  have hlt1 := O1.out.lt
  go_loopw [8, 9, 10] (fun h f i wr => SRel W W.heap.size n wait h f i wr) (fun _ _ i _ => n - (intOf i).toNat)
  case atStart =>
    exact ⟨0, 0, 0, DS.init wait, Nat.zero_le _, by decide, by decide, rfl, rfl, rfl, ⟨dok_init (by omega), rfl, rfl, rfl, fun h => absurd h (by decide)⟩, O1.out, below_none (Below.refl _ _) G1.out⟩
  case round =>
    obtain ⟨wo, rfl⟩ : ∃ wo : World, wo = wr := ⟨_, rfl⟩
    obtain ⟨k, h, f, st, hk, hh1, hf, rfl, rfl, rfl, hst, h1, hbel⟩ := hrel
    have HST := Lib.hid hst
    have H1 := Lib.hid h1
    have HB := Lib.hid hbel
    clear hst h1 hbel
    by_cases hlt : k < n
    · rcases HSL.out with h0 | ⟨b, off, rfl, hb, hc⟩
      · omega
      have hr0 := hc k 0 hlt (by decide)
      simp only [Nat.add_zero, Nat.mul_one] at hr0
      have HR := Lib.hid hr0
      have htk := HTS.out k hlt
      have hbne : b ≠ W.heap.size := by omega
      clear hc hr0
      obtain ⟨c, hcc⟩ : ∃ c : Nat, ts k % 4 = (c : Int) := ⟨(ts k % 4).toNat, by omega⟩
      have hc4 : c ≤ 3 := by omega
      have HC := Lib.hid hcc
      clear hcc
      go_wp2_with fail
      go_loopw [8, 9, 12] (fun h f j wr => SIn W W.heap.size c wait (k : Int) h f j wr) (fun _ _ j _ => c - (intOf j).toNat)
      case atStart => exact ⟨0, h, f, st, Nat.zero_le _, by omega, hf, rfl, rfl, rfl, HST.out, H1.out, HB.out⟩
      case round =>
        obtain ⟨j, h, f, st, hj, hhj, hf2, rfl, rfl, rfl, hst, h1, hbel⟩ := hrel
        have HST2 := Lib.hid hst
        have H2 := Lib.hid h1
        have HB2 := Lib.hid hbel
        have hr0 := (hbel.cell (p := ⟨b, off + k, none⟩) hb).trans HR.out
        clear hst h1 hbel
        have hmod := HC.out
        by_cases hlt2 : j < c
        · by_cases h0 : h = 0
          · subst h0
            have lt3 : ((j : Int) < ts k % 4) := by omega
            clear hmod
            go_wp2_with fail
            refine (packet_any st HST2.out.1 _ (k : Int) false _ H2.out).mono ?_
            rintro e w3 ⟨rfl, o3, g3⟩
            have O3 := Lib.hid o3
            have G3 := Lib.hid g3
            clear o3 g3
            go_wp2_with fail
            go_roundw
            case rel => exact ⟨j + 1, 0 + 1, k, _, by omega, by omega, by omega, by go_num, by go_num, rfl, holds_first HST2.out (by omega), O3.out, below_only HB2.out G3.out (Nat.le_refl _)⟩
            case measure => simp [intOf]; omega
          · have z : ((h : Int) == 0) = false := by simp; omega
            have lt3 : ((j : Int) < ts k % 4) := by omega
            clear hmod
            go_wp2_with fail
            refine (packet_any st HST2.out.1 _ (k : Int) false _ H2.out).mono ?_
            rintro e w3 ⟨rfl, o3, g3⟩
            have O3 := Lib.hid o3
            have G3 := Lib.hid g3
            clear o3 g3
            go_wp2_with fail
            go_roundw
            case rel => exact ⟨j + 1, h + 1, f, _, by omega, by omega, hf2, by go_num, by go_num, rfl, holds_packet HST2.out (by omega) (by omega), O3.out, below_only HB2.out G3.out (Nat.le_refl _)⟩
            case measure => simp [intOf]; omega
        · have lt3 : ¬ ((j : Int) < ts k % 4) := by omega
          clear hmod
          by_cases h0 : h = 0
          · subst h0
            have d1 := holds_none HST2.out
            go_wp2_with fail
            refine (due_any st HST2.out.1 _ (k : Int) _ H2.out).mono ?_
            rintro e w4 ⟨rfl, g4⟩
            have G4 := Lib.hid g4
            clear g4
            have A4 := Lib.hid (H2.out.kept G4.out (by simp))
            go_wp2_with fail
            refine (due_any st HST2.out.1 _ (k : Int) _ A4.out).mono ?_
            rintro e w5 ⟨rfl, g5⟩
            have G5 := Lib.hid g5
            clear g5
            have A5 := Lib.hid (A4.out.kept G5.out (by simp))
            go_wp2_with fail
            go_roundw
            case rel => exact ⟨k + 1, 0, f, st, by omega, by decide, hf2, by go_num, rfl, rfl, holds_later HST2.out (by omega), A5.out, below_none (below_none HB2.out G4.out) G5.out⟩
            case measure => simp [intOf]; omega
          · by_cases h1 : h = 1
            · subst h1
              have fb := HST2.out.2.2.2.2 (by decide)
              have fb2 := fb.2
              clear fb
              by_cases hd : f + wait ≤ (k : Int)
              · have d1 := holds_yes HST2.out hd
                have d2 := sent_due st (k : Int)
                go_wp2_with fail
                refine (due_any st HST2.out.1 _ (k : Int) _ H2.out).mono ?_
                rintro e w4 ⟨rfl, g4⟩
                have G4 := Lib.hid g4
                clear g4
                have A4 := Lib.hid (H2.out.kept G4.out (by simp))
                go_wp2_with fail
                refine (sent_any st _ _ A4.out).mono ?_
                rintro e w5 ⟨rfl, o5, g5⟩
                have O5 := Lib.hid o5
                have G5 := Lib.hid g5
                clear o5 g5
                go_wp2_with fail
                refine (due_any st.sent (dok_sent HST2.out.1) _ (k : Int) _ O5.out).mono ?_
                rintro e w6 ⟨rfl, g6⟩
                have G6 := Lib.hid g6
                clear g6
                have A6 := Lib.hid (O5.out.kept G6.out (by simp))
                go_wp2_with fail
                go_roundw
                case rel => exact ⟨k + 1, 0, f, _, by omega, by decide, hf2, by go_num, rfl, rfl, holds_sent HST2.out f _, A6.out, below_none (below_only (below_none HB2.out G4.out) G5.out (Nat.le_refl _)) G6.out⟩
                case measure => simp [intOf]; omega
              · have d1 := holds_no HST2.out (by omega)
                have d3 : ¬ wait ≤ (k : Int) - f := by omega
                go_wp2_with fail
                refine (due_any st HST2.out.1 _ (k : Int) _ H2.out).mono ?_
                rintro e w4 ⟨rfl, g4⟩
                have G4 := Lib.hid g4
                clear g4
                have A4 := Lib.hid (H2.out.kept G4.out (by simp))
                go_wp2_with fail
                refine (due_any st HST2.out.1 _ (k : Int) _ A4.out).mono ?_
                rintro e w5 ⟨rfl, g5⟩
                have G5 := Lib.hid g5
                clear g5
                have A5 := Lib.hid (A4.out.kept G5.out (by simp))
                go_wp2_with fail
                go_roundw
                case rel => exact ⟨k + 1, 1, f, st, by omega, by decide, hf2, by go_num, rfl, rfl, holds_later HST2.out (by omega), A5.out, below_none (below_none HB2.out G4.out) G5.out⟩
                case measure => simp [intOf]; omega
            · have d1 := holds_many HST2.out (by omega)
              have d2 := sent_due st (k : Int)
              have d3 : (2 : Int) ≤ (h : Int) := by omega
              go_wp2_with fail
              refine (due_any st HST2.out.1 _ (k : Int) _ H2.out).mono ?_
              rintro e w4 ⟨rfl, g4⟩
              have G4 := Lib.hid g4
              clear g4
              have A4 := Lib.hid (H2.out.kept G4.out (by simp))
              go_wp2_with fail
              refine (sent_any st _ _ A4.out).mono ?_
              rintro e w5 ⟨rfl, o5, g5⟩
              have O5 := Lib.hid o5
              have G5 := Lib.hid g5
              clear o5 g5
              go_wp2_with fail
              refine (due_any st.sent (dok_sent HST2.out.1) _ (k : Int) _ O5.out).mono ?_
              rintro e w6 ⟨rfl, g6⟩
              have G6 := Lib.hid g6
              clear g6
              have A6 := Lib.hid (O5.out.kept G6.out (by simp))
              go_wp2_with fail
              go_roundw
              case rel => exact ⟨k + 1, 0, f, _, by omega, by decide, hf2, by go_num, rfl, rfl, holds_sent HST2.out f _, A6.out, below_none (below_only (below_none HB2.out G4.out) G5.out (Nat.le_refl _)) G6.out⟩
              case measure => simp [intOf]; omega
    · go_wp2_with (go_at_call 9; refine (works_any _).mono ?_; rintro e w99 ⟨rfl, g99⟩)
      go_ret
      exact ⟨rfl, below_none HB.out g99⟩

theorem delaySoon.walk (W : World) (t : Int) (wt : (Lit.int .u8 t).wf = true) (v : Value) (x : Nat × (Nat → Int)) (ho : Small W v x) :
    Calls Try.prog 4 #[.int .u8 t, v] W fun e w' => e = .returned (.bool true) ∧ Below W.heap.size W w' := by
  by_cases hn : x.1 ≤ 300
  · exact soon_good t (bounds_u8 wt) v x W ho hn
  · obtain ⟨n, ts⟩ := x
    obtain ⟨⟨a, cap, rfl, hcap, hcap2, hsl⟩, hts⟩ := ho
    simp only at hn
    have hn2 : 300 < n := by omega
    clear hsl hts hn
    go_enter Try.func4, Try.ntmps4
    go_wp2_with (go_at_call 9; refine (works_any _).mono ?_; rintro e w99 ⟨rfl, g99⟩)
    go_ret
    exact ⟨rfl, below_none (Below.refl _ _) g99⟩
end Go.Proofs.Ytpapdcembpceaaa
