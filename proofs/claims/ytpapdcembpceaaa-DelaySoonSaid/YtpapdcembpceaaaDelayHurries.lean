/- The walks of DelayHurries and DelayOnce. No condition. -/
import Derived.Test.YtpapdcembpceaaaDelayPlays2
namespace Go.Proofs.Ytpapdcembpceaaa
open Go.RowKit Go.ChangeShapes Go.WideShapes Go.Deep
set_option linter.unusedVariables false
set_option linter.unusedSimpArgs false

/-- Times that came in. -/
def Times (W : World) (v : Value) (x : Nat × (Nat → Int)) : Prop :=
  IsSl W v x.1 1 (fun i _ => .int .i64 (x.2 i)) ∧ ∀ i, i < x.1 → -9223372036854775808 ≤ x.2 i ∧ x.2 i ≤ 9223372036854775807
theorem opened40 {H : Type} {enc : TypeId × Value → H} {W : World} {r : Reach} {base : Nat} {v : Value} {d : DataW H} {p : List MemPlace}
    (hv : Value.okWide Try.prog W r base 40 v) (h : DataW.Trod enc Try.prog W 0 (fun _ => true) true 40 v d p) : ∃ x, Times W v x := by
  obtain ⟨n, V, hsl, hV⟩ := openSl1 Try.underlying40 (by kernel_rfl) hv h
  have e1 : ∀ i, i < n → ∃ c : Int, V i 0 = .int .i64 c ∧ (Lit.int .i64 c).wf = true := fun i hi => by
    obtain ⟨m, y, hy⟩ := hV i hi
    exact trod_int1 Try.underlying2 hy
  obtain ⟨ts, hts⟩ := choose_lt e1
  refine ⟨(n, ts), isSl_congr hsl fun i j hi hj => ?_, fun i hi => bounds_i64 (hts i hi).2⟩
  have : j = 0 := by omega
  subst this
  rw [(hts i hi).1]

/-- A delay that hurries. -/
def DS.hot (x : DS) : Prop := x.ok ∧ x.urgent = true ∧ 0 < x.many
theorem hot_due {x : DS} (h : x.hot) (now : Int) : x.due now = true := by
  obtain ⟨_, h1, h2⟩ := h
  simp [DS.due, h1, h2]
theorem hot_packet {x : DS} (h : x.hot) (now : Int) (u : Bool) : (x.packet now u).hot := by
  obtain ⟨h0, h1, h2⟩ := h
  refine ⟨dok_packet h0 now u, by simp [DS.packet, h1], ?_⟩
  simp only [DS.packet]; omega
theorem hot_first {x : DS} (h : x.ok) (now : Int) : (x.packet now true).hot := by
  refine ⟨dok_packet h now true, by simp [DS.packet], ?_⟩
  unfold DS.ok at h
  simp only [DS.packet]; omega
theorem sent_due (x : DS) (now : Int) : x.sent.due now = false := by simp [DS.due, DS.sent]
theorem sent_some (x : DS) : x.sent.some = false := by simp [DS.some, DS.sent]

def HRel (W : World) (b1 n : Nat) (i : Value) (wr : World) : Prop :=
  ∃ (k : Nat) (st : DS), k ≤ n ∧ i = .int .i64 (k : Int) ∧ st.hot ∧ obj wr b1 45 st.cells ∧ Below W.heap.size W wr

set_option maxRecDepth 100000 in
set_option maxHeartbeats 8000000 in
theorem hurries_good (t now : Int) (hf : 0 ≤ t ∧ t ≤ 1048576) (v : Value) (x : Nat × (Nat → Int)) (W : World) (ho : Times W v x) (hn : x.1 ≤ 300) :
    Calls Try.prog 6 #[.int .i64 t, .int .i64 now, v] W fun e w' => e = .returned (.bool true) ∧ Below W.heap.size W w' := by
  obtain ⟨n, ts⟩ := x
  obtain ⟨⟨a, cap, rfl, hcap, hcap2, hsl⟩, hts⟩ := ho
  simp only at hn hts hsl hcap
  have HSL := Lib.hid hsl
  have HTS := Lib.hid hts
  have HF := Lib.hid hf
  clear hsl hts hf
  go_enter Try.func6, Try.ntmps6
  go_wp2_with fail
  refine (new_any t HF.out _).mono ?_
  rintro e w1 ⟨rfl, o1, g1⟩
  have O1 := Lib.hid o1
  have G1 := Lib.hid g1
  clear o1 g1
  go_wp2_with fail
  refine (packet_any _ (dok_init HF.out) _ now true _ O1.out).mono ?_
  rintro e w2 ⟨rfl, o2, g2⟩
  have O2 := Lib.hid o2
  have G2 := Lib.hid g2
  clear o2 g2
  go_wp2_with fail
  have hsz1 := O1.out.lt
  go_loopw [9] (fun i wr => HRel W W.heap.size n i wr) (fun i _ => n - (intOf i).toNat)
  case atStart => exact ⟨0, _, Nat.zero_le _, rfl, hot_first (dok_init HF.out) now, O2.out, below_only (below_none (Below.refl _ _) G1.out) G2.out (Nat.le_refl _)⟩
  case round =>
    obtain ⟨k, st, hk, rfl, hh, h1, hbel⟩ := hrel
    have HH := Lib.hid hh
    have H1 := Lib.hid h1
    have HB := Lib.hid hbel
    clear hh h1 hbel
    by_cases hlt : k < n
    · rcases HSL.out with h0 | ⟨b, off, rfl, hb, hc⟩
      · omega
      have hr0 := sl_cell (hc k 0 hlt (by decide)) hb HB.out
      simp only [Nat.add_zero, Nat.mul_one] at hr0
      have ht := HTS.out k hlt
      have hbne : b ≠ W.heap.size := by omega
      clear hc
      have d1 := hot_due HH.out (ts k)
      go_wp2_with fail
      refine (due_any st HH.out.1 _ (ts k) _ H1.out).mono ?_
      rintro e w3 ⟨rfl, g3⟩
      have G3 := Lib.hid g3
      clear g3
      have H3 := Lib.hid (H1.out.kept G3.out (by simp))
      have hr3 := only_cell (only_some G3.out (some W.heap.size)) hr0 hbne
      go_wp2_with fail
      refine (packet_any st HH.out.1 _ (ts k) false _ H3.out).mono ?_
      rintro e w4 ⟨rfl, o4, g4⟩
      have O4 := Lib.hid o4
      have G4 := Lib.hid g4
      clear o4 g4
      go_wp2_with fail
      go_roundw
      case rel => exact ⟨k + 1, _, by omega, by go_num, hot_packet HH.out (ts k) false, O4.out, below_only (below_none HB.out G3.out) G4.out (Nat.le_refl _)⟩
      case measure => simp [intOf]; omega
    · have d1 := hot_due HH.out now
      have d2 := hot_due HH.out (-9223372036854775808)
      have d3 := sent_due st 4611686018427387904
      have d4 := sent_some st
      have HOK2 := Lib.hid (dok_sent HH.out.1)
      go_wp2_with fail
      refine (due_any st HH.out.1 _ now _ H1.out).mono ?_
      rintro e w3 ⟨rfl, g3⟩
      have G3 := Lib.hid g3
      clear g3
      have H3 := Lib.hid (H1.out.kept G3.out (by simp))
      go_wp2_with fail
      refine (due_any st HH.out.1 _ (-9223372036854775808) _ H3.out).mono ?_
      rintro e w4 ⟨rfl, g4⟩
      have G4 := Lib.hid g4
      clear g4
      have H4 := Lib.hid (H3.out.kept G4.out (by simp))
      go_wp2_with fail
      refine (sent_any st _ _ H4.out).mono ?_
      rintro e w5 ⟨rfl, o5, g5⟩
      have O5 := Lib.hid o5
      have G5 := Lib.hid g5
      clear o5 g5
      go_wp2_with fail
      refine (when_any st.sent HOK2.out _ _ O5.out).mono ?_
      rintro e w6 ⟨rfl, g6⟩
      have G6 := Lib.hid g6
      clear g6
      have O6 := Lib.hid (O5.out.kept G6.out (by simp))
      go_wp2_with fail
      refine (due_any st.sent HOK2.out _ 4611686018427387904 _ O6.out).mono ?_
      rintro e w7 ⟨rfl, g7⟩
      have G7 := Lib.hid g7
      clear g7
      go_wp2_with (go_at_call 9; refine (works_any _).mono ?_; rintro e w99 ⟨rfl, g99⟩)
      go_ret
      exact ⟨rfl, below_none (below_none (below_none (below_only (below_none (below_none HB.out G3.out) G4.out) G5.out (Nat.le_refl _)) G6.out) G7.out) g99⟩

theorem delayHurries.walk (W : World) (t : Int) (wt : (Lit.int .i64 t).wf = true) (now : Int) (wn : (Lit.int .i64 now).wf = true) (v : Value) (x : Nat × (Nat → Int)) (ho : Times W v x) :
    Calls Try.prog 6 #[.int .i64 t, .int .i64 now, v] W fun e w' => e = .returned (.bool true) ∧ Below W.heap.size W w' := by
  by_cases hf : 0 ≤ t ∧ t ≤ 1048576
  · by_cases hn : x.1 ≤ 300
    · exact hurries_good t now hf v x W ho hn
    · obtain ⟨n, ts⟩ := x
      obtain ⟨⟨a, cap, rfl, hcap, hcap2, hsl⟩, hts⟩ := ho
      simp only at hn
      have hn2 : 300 < n := by omega
      have HF := Lib.hid hf
      clear hsl hts hn hf
      go_enter Try.func6, Try.ntmps6
      go_wp2_with fail
      refine (new_any t HF.out _).mono ?_
      rintro e w1 ⟨rfl, o1, g1⟩
      have O1 := Lib.hid o1
      have G1 := Lib.hid g1
      clear o1 g1
      go_wp2_with (go_at_call 9; refine (works_any _).mono ?_; rintro e w99 ⟨rfl, g99⟩)
      go_ret
      exact ⟨rfl, below_none (below_none (Below.refl _ _) G1.out) g99⟩
  · obtain ⟨n, ts⟩ := x
    obtain ⟨⟨a, cap, rfl, hcap, hcap2, hsl⟩, hts⟩ := ho
    have HF := Lib.hid hf
    clear hsl hts hf
    go_enter Try.func6, Try.ntmps6
    go_wp2_with fail
    refine (new_any_bad t HF.out _).mono ?_
    rintro e x1 ⟨rfl, rfl⟩
    go_wp2_with (go_at_call 9; refine (works_any _).mono ?_; rintro e w99 ⟨rfl, g99⟩)
    go_ret
    exact ⟨rfl, below_none (Below.refl _ _) g99⟩

/-- A delay without packets, with no ticks to wait. -/
def DS.cool (x : DS) : Prop := x.ok ∧ x.ticks = 0 ∧ x.many = 0
theorem cool_due {x : DS} (h : x.cool) {now : Int} (hn : 0 ≤ now) : (x.packet now false).due now = true := by
  obtain ⟨_, h1, h2⟩ := h
  simp [DS.due, DS.packet, h1, h2]
  omega
theorem cool_sent {x : DS} (h : x.cool) (now : Int) : ((x.packet now false).sent.sent).cool := by
  obtain ⟨h0, h1, h2⟩ := h
  exact ⟨dok_sent (dok_sent (dok_packet h0 now false)), h1, rfl⟩

def ORel (W : World) (b1 n : Nat) (i : Value) (wr : World) : Prop :=
  ∃ (k : Nat) (st : DS), k ≤ n ∧ i = .int .i64 (k : Int) ∧ st.cool ∧ obj wr b1 45 st.cells ∧ Below W.heap.size W wr

set_option maxRecDepth 100000 in
set_option maxHeartbeats 8000000 in
theorem once_good (v : Value) (x : Nat × (Nat → Int)) (W : World) (ho : Times W v x) (hn : x.1 ≤ 300) :
    Calls Try.prog 7 #[v] W fun e w' => e = .returned (.bool true) ∧ Below W.heap.size W w' := by
  obtain ⟨n, ts⟩ := x
  obtain ⟨⟨a, cap, rfl, hcap, hcap2, hsl⟩, hts⟩ := ho
  simp only at hn hts hsl hcap
  have HSL := Lib.hid hsl
  have HTS := Lib.hid hts
  clear hsl hts
  go_enter Try.func7, Try.ntmps7
  go_wp2_with fail
  refine (new_any 0 (by decide) _).mono ?_
  rintro e w1 ⟨rfl, o1, g1⟩
  have O1 := Lib.hid o1
  have G1 := Lib.hid g1
  clear o1 g1
  go_wp2_with fail
  have hsz1 := O1.out.lt
  go_loopw [5] (fun i wr => ORel W W.heap.size n i wr) (fun i _ => n - (intOf i).toNat)
  case atStart => exact ⟨0, _, Nat.zero_le _, rfl, ⟨dok_init (by decide), rfl, rfl⟩, O1.out, below_none (Below.refl _ _) G1.out⟩
  case round =>
    obtain ⟨k, st, hk, rfl, hh, h1, hbel⟩ := hrel
    have HH := Lib.hid hh
    have H1 := Lib.hid h1
    have HB := Lib.hid hbel
    clear hh h1 hbel
    by_cases hlt : k < n
    · rcases HSL.out with h0 | ⟨b, off, rfl, hb, hc⟩
      · omega
      have hr0 := sl_cell (hc k 0 hlt (by decide)) hb HB.out
      simp only [Nat.add_zero, Nat.mul_one] at hr0
      have ht := HTS.out k hlt
      clear hc
      by_cases hs : ts k < 0
      · have X : True := trivial
        have d1 := cool_due HH.out (now := 0) (by omega)
        have HOK2 := Lib.hid (dok_packet HH.out.1 (0) false)
        have HOK3 := Lib.hid (dok_sent (dok_sent HOK2.out))
        have d2 := sent_due (st.packet (0) false).sent (0)
        go_wp2_with fail
        refine (packet_any st HH.out.1 _ (0) false _ H1.out).mono ?_
        rintro e w3 ⟨rfl, o3, g3⟩
        have O3 := Lib.hid o3
        have G3 := Lib.hid g3
        clear o3 g3
        go_wp2_with fail
        refine (due_any _ HOK2.out _ (0) _ O3.out).mono ?_
        rintro e w4 ⟨rfl, g4⟩
        have G4 := Lib.hid g4
        clear g4
        have O4 := Lib.hid (O3.out.kept G4.out (by simp))
        go_wp2_with fail
        refine (sent_any _ _ _ O4.out).mono ?_
        rintro e w5 ⟨rfl, o5, g5⟩
        have O5 := Lib.hid o5
        have G5 := Lib.hid g5
        clear o5 g5
        go_wp2_with fail
        refine (sent_any _ _ _ O5.out).mono ?_
        rintro e w6 ⟨rfl, o6, g6⟩
        have O6 := Lib.hid o6
        have G6 := Lib.hid g6
        clear o6 g6
        go_wp2_with fail
        refine (due_any _ HOK3.out _ (0) _ O6.out).mono ?_
        rintro e w7 ⟨rfl, g7⟩
        have G7 := Lib.hid g7
        clear g7
        have O7 := Lib.hid (O6.out.kept G7.out (by simp))
        go_wp2_with fail
        go_roundw
        case rel => exact ⟨k + 1, _, by omega, by go_num, cool_sent HH.out (0), O7.out, below_none (below_only (below_only (below_none (below_only HB.out G3.out (Nat.le_refl _)) G4.out) G5.out (Nat.le_refl _)) G6.out (Nat.le_refl _)) G7.out⟩
        case measure => simp [intOf]; omega
      · have X : True := trivial
        have d1 := cool_due HH.out (now := ts k) (by omega)
        have HOK2 := Lib.hid (dok_packet HH.out.1 (ts k) false)
        have HOK3 := Lib.hid (dok_sent (dok_sent HOK2.out))
        have d2 := sent_due (st.packet (ts k) false).sent (ts k)
        go_wp2_with fail
        refine (packet_any st HH.out.1 _ (ts k) false _ H1.out).mono ?_
        rintro e w3 ⟨rfl, o3, g3⟩
        have O3 := Lib.hid o3
        have G3 := Lib.hid g3
        clear o3 g3
        go_wp2_with fail
        refine (due_any _ HOK2.out _ (ts k) _ O3.out).mono ?_
        rintro e w4 ⟨rfl, g4⟩
        have G4 := Lib.hid g4
        clear g4
        have O4 := Lib.hid (O3.out.kept G4.out (by simp))
        go_wp2_with fail
        refine (sent_any _ _ _ O4.out).mono ?_
        rintro e w5 ⟨rfl, o5, g5⟩
        have O5 := Lib.hid o5
        have G5 := Lib.hid g5
        clear o5 g5
        go_wp2_with fail
        refine (sent_any _ _ _ O5.out).mono ?_
        rintro e w6 ⟨rfl, o6, g6⟩
        have O6 := Lib.hid o6
        have G6 := Lib.hid g6
        clear o6 g6
        go_wp2_with fail
        refine (due_any _ HOK3.out _ (ts k) _ O6.out).mono ?_
        rintro e w7 ⟨rfl, g7⟩
        have G7 := Lib.hid g7
        clear g7
        have O7 := Lib.hid (O6.out.kept G7.out (by simp))
        go_wp2_with fail
        go_roundw
        case rel => exact ⟨k + 1, _, by omega, by go_num, cool_sent HH.out (ts k), O7.out, below_none (below_only (below_only (below_none (below_only HB.out G3.out (Nat.le_refl _)) G4.out) G5.out (Nat.le_refl _)) G6.out (Nat.le_refl _)) G7.out⟩
        case measure => simp [intOf]; omega
    · go_wp2_with (go_at_call 9; refine (works_any _).mono ?_; rintro e w99 ⟨rfl, g99⟩)
      go_ret
      exact ⟨rfl, below_none HB.out g99⟩

theorem delayOnce.walk (W : World) (v : Value) (x : Nat × (Nat → Int)) (ho : Times W v x) :
    Calls Try.prog 7 #[v] W fun e w' => e = .returned (.bool true) ∧ Below W.heap.size W w' := by
  by_cases hn : x.1 ≤ 300
  · exact once_good v x W ho hn
  · obtain ⟨n, ts⟩ := x
    obtain ⟨⟨a, cap, rfl, hcap, hcap2, hsl⟩, hts⟩ := ho
    simp only at hn
    have hn2 : 300 < n := by omega
    clear hsl hts hn
    go_enter Try.func7, Try.ntmps7
    go_wp2_with (go_at_call 9; refine (works_any _).mono ?_; rintro e w99 ⟨rfl, g99⟩)
    go_ret
    exact ⟨rfl, below_none (Below.refl _ _) g99⟩
end Go.Proofs.Ytpapdcembpceaaa
