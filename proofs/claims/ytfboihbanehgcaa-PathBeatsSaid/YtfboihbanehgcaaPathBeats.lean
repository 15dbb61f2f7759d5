/- The walk of PathBeats. No condition. -/
import Derived.Test.YtfboihbanehgcaaPathWorks
namespace Go.Proofs.Ytfboihbanehgcaa
open Go.RowKit Go.ChangeShapes Go.WideShapes Go.Deep
set_option linter.unusedVariables false
set_option linter.unusedSimpArgs false

/-- Steps of time that came in. -/
def Steps16 (W : World) (v : Value) (x : Nat × (Nat → Int)) : Prop :=
  IsSl W v x.1 1 (fun i _ => .int .u16 (x.2 i)) ∧ ∀ i, i < x.1 → 0 ≤ x.2 i ∧ x.2 i ≤ 65535
theorem opened40 {H : Type} {enc : TypeId × Value → H} {W : World} {r : Reach} {base : Nat} {v : Value} {d : DataW H} {p : List MemPlace}
    (hv : Value.okWide Try.prog W r base 40 v) (h : DataW.Trod enc Try.prog W 0 (fun _ => true) true 40 v d p) : ∃ x, Steps16 W v x := by
  obtain ⟨n, V, hsl, hV⟩ := openSl1 Try.underlying40 (by kernel_rfl) hv h
  have e1 : ∀ i, i < n → ∃ c : Int, V i 0 = .int .u16 c ∧ (Lit.int .u16 c).wf = true := fun i hi => by
    obtain ⟨m, y, hy⟩ := hV i hi
    exact trod_int1 Try.underlying41 hy
  obtain ⟨ts, hts⟩ := choose_lt e1
  refine ⟨(n, ts), isSl_congr hsl fun i j hi hj => ?_, fun i hi => bounds_u16 (hts i hi).2⟩
  have : j = 0 := by omega
  subst this
  rw [(hts i hi).1]

theorem beat1_next (x : PS) (t : Int) (hb : x.beat = 10) (ht : t ≤ 1000000) : (x.beat1 t).next = t + (x.beat1 t).r.v + 10 ∧ (x.beat1 t).beat = 10 := by
  have hbe : x.failed.beat = 10 := by
    unfold PS.failed PS.fails
    split <;> exact hb
  show min t 2305843009213693952 + x.failed.r.v + x.failed.beat = t + x.failed.r.v + 10 ∧ x.failed.beat = 10
  rw [hbe]
  refine ⟨?_, rfl⟩
  omega

def BRel (W : World) (p : PP) (n : Nat) (now i : Value) (wr : World) : Prop :=
  ∃ (k : Nat) (t : Int) (st : PS), k ≤ n ∧ i = .int .i64 (k : Int) ∧ now = .int .i64 t ∧ 0 ≤ t ∧ t ≤ 50 * (k : Int) ∧ st.ok 0 ∧ st.beat = 10 ∧ isPath wr p st ∧ Below W.heap.size W wr

set_option maxRecDepth 100000 in
set_option maxHeartbeats 8000000 in
theorem beats_good (rt : Int) (hrt : 0 ≤ rt ∧ rt ≤ 255) (v : Value) (x : Nat × (Nat → Int)) (W : World) (ho : Steps16 W v x) (hn : x.1 ≤ 300) :
    Calls Try.prog 6 #[.int .u8 rt, v] W fun e w' => e = .returned (.bool true) ∧ Below W.heap.size W w' := by
  obtain ⟨n, ts⟩ := x
  obtain ⟨⟨a, cap, rfl, hcap, hcap2, hsl⟩, hts⟩ := ho
  simp only at hn hts hsl hcap
  have HSL := Lib.hid hsl
  have HTS := Lib.hid hts
  clear hsl hts
  have P21 := Lib.hid (plain_fits rt 0 (by decide))
  have HI := Lib.hid (pok_init P21.out)
  have HB0 := Lib.hid (Below.refl W.heap.size W)
  go_enter Try.func6, Try.ntmps6
  go_wp2_with fail
  refine (plain_any rt hrt _).mono ?_
  rintro e w1 ⟨rfl, g1⟩
  have HB1 := Lib.hid (below_none HB0.out g1)
  have Z1 := g1.size
  clear g1
  go_wp2_with fail
  refine (pnew_any (plain rt) 0 P21.out _).mono ?_
  rintro e w2 ⟨p, rfl, o2, i2, g2⟩
  have O2 := Lib.hid o2
  have I2 := Lib.hid i2
  have HB2 := Lib.hid (below_none HB1.out g2)
  clear o2 i2 g2
  have en : (PS.init (plain rt) 0).next = 10 := rfl
  go_wp2_with fail
  refine (when_any _ p _ O2.out).mono ?_
  rintro e w9 ⟨rfl, rfl⟩
  rw [en]
  clear en
  go_wp2_with fail
  go_loopw [7, 8, 9] (fun t i _ wr => BRel W p n t i wr) (fun _ i _ _ => n - (intOf i).toNat)
  case atStart => exact ⟨0, 0, _, Nat.zero_le _, rfl, rfl, Int.le_refl 0, by omega, HI.out, rfl, O2.out, HB2.out⟩
  case round =>
    obtain ⟨k, t, st, hk, rfl, rfl, ht0, ht1, hok, hb10, h1, hbel⟩ := hrel
    have HOK := Lib.hid hok
    have H10 := Lib.hid hb10
    have H1 := Lib.hid h1
    have HB := Lib.hid hbel
    clear hok h1 hbel hb10
    by_cases hlt : k < n
    · rcases HSL.out with h0 | ⟨b, off, rfl, hb, hc⟩
      · omega
      have hr0 := sl_cell (hc k 0 hlt (by decide)) hb HB.out
      simp at hr0
      have hts := HTS.out k hlt
      clear hc
      generalize ts k = s at hr0 hts
      have hm0 : 0 ≤ s % 50 := by omega
      have hm1 : s % 50 < 50 := by omega
      go_wp2_with fail
      refine (when_any st p _ H1.out).mono ?_
      rintro e w9 ⟨rfl, rfl⟩
      by_cases hd : st.next ≤ t + s % 50
      · have E1 := Lib.hid (beat1_next st (t + s % 50) H10.out (by omega))
        have OK1 := Lib.hid (pok_beat HOK.out (show 0 ≤ t + s % 50 by omega))
        go_wp2_with fail
        refine (pbeat_any_due st HOK.out (t + s % 50) hd (by omega) p _ H1.out).mono ?_
        rintro e w3 ⟨rfl, o3, t3⟩
        have O3 := Lib.hid o3
        have HB3 := Lib.hid (below_path HB.out t3 I2.out (by omega))
        clear o3 t3
        go_wp2_with fail
        refine (when_any (st.beat1 (t + s % 50)) p _ O3.out).mono ?_
        rintro e w9 ⟨rfl, rfl⟩
        go_wp2_with fail
        refine (rto_any (st.beat1 (t + s % 50)) p _ O3.out).mono ?_
        rintro e w4 ⟨rfl, g4⟩
        have O4 := Lib.hid (O3.out.stay (turned_none g4))
        have HB4 := Lib.hid (below_none HB3.out g4)
        clear g4
        have kv := rv_bd OK1.out.2.2.2.2.2.2.2.2.1
        have e1 : ((st.beat1 (t + s % 50)).next != t + s % 50 + (st.beat1 (t + s % 50)).r.v + 10) = false := by rw [E1.out.1]; simp
        have e2 : t + s % 50 < (st.beat1 (t + s % 50)).next := by rw [E1.out.1]; omega
        go_wp2_with fail
        refine (pbeat_any_early (st.beat1 (t + s % 50)) (t + s % 50) e2 p _ O4.out).mono ?_
        rintro e w9 ⟨rfl, rfl⟩
        clear e1
        go_wp2_with fail
        go_roundw
        case rel => exact ⟨k + 1, _, _, by omega, by go_num, rfl, by omega, by omega, OK1.out, E1.out.2, O4.out, HB4.out⟩
        case measure => simp [intOf]; omega
      · have hd2 : t + s % 50 < st.next := by omega
        have e1 : (st.next != st.next) = false := by simp
        clear hd
        go_wp2_with fail
        refine (pbeat_any_early st (t + s % 50) hd2 p _ H1.out).mono ?_
        rintro e w9 ⟨rfl, rfl⟩
        go_wp2_with fail
        refine (when_any st p _ H1.out).mono ?_
        rintro e w9 ⟨rfl, rfl⟩
        go_wp2_with fail
        refine (pbeat_any_early st (t + s % 50) hd2 p _ H1.out).mono ?_
        rintro e w9 ⟨rfl, rfl⟩
        go_wp2_with fail
        go_roundw
        case rel => exact ⟨k + 1, _, _, by omega, by go_num, rfl, by omega, by omega, HOK.out, H10.out, H1.out, HB.out⟩
        case measure => simp [intOf]; omega
    · go_wp2_with (go_at_call 9; refine (works_any _).mono ?_; rintro e w9 ⟨rfl, g9⟩)
      go_ret
      exact ⟨rfl, below_none HB.out g9⟩

theorem pathBeats.walk (W : World) (rt : Int) (wr : (Lit.int .u8 rt).wf = true) (v : Value) (x : Nat × (Nat → Int)) (ho : Steps16 W v x) :
    Calls Try.prog 6 #[.int .u8 rt, v] W fun e w' => e = .returned (.bool true) ∧ Below W.heap.size W w' := by
  by_cases hn : x.1 ≤ 300
  · exact beats_good rt (bounds_u8 wr) v x W ho hn
  · obtain ⟨n, ops⟩ := x
    obtain ⟨⟨a, cap, rfl, hcap, hcap2, hsl⟩, hts⟩ := ho
    simp only at hn
    have hn2 : 300 < n := by omega
    clear hsl hts hn
    go_enter Try.func6, Try.ntmps6
    go_wp2_with (go_at_call 9; refine (works_any _).mono ?_; rintro e w9 ⟨rfl, g9⟩)
    go_ret
    exact ⟨rfl, below_none (Below.refl _ _) g9⟩
end Go.Proofs.Ytfboihbanehgcaa
