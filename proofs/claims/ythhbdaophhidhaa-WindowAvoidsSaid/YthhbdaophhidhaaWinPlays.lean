/- The anchor of the laws of chapter 13; WindowPlays, WindowNil. No condition. -/
import Derived.Test.YthhbdaophhidhaaWinDoes
namespace Go.Proofs.Ythhbdaophhidhaa
open Go.RowKit Go.ChangeShapes Go.WideShapes Go.Deep
set_option linter.unusedVariables false
set_option linter.unusedSimpArgs false

def wk1 : WS := ⟨128, 1000, 356, 1000, 0⟩
def wk2 : WS := ⟨128, 1000, 484, 1000, 0⟩
def wk3 : WS := ⟨128, 1000, 484, 512, 0⟩
def wk4 : WS := ⟨128, 1000, 128, 512, 0⟩
theorem wk1_eq : (WS.init 128 1000).acked 100 true = wk1 := by kernel_rfl
theorem wk2_eq : wk1.acked 500 true = wk2 := by kernel_rfl
theorem wk2b_eq : wk2.acked 9 false = wk2 := by kernel_rfl
theorem wk3_eq : wk2.fast = wk3 := by kernel_rfl
theorem wk4_eq : wk3.timeout = wk4 := by kernel_rfl
theorem wk_fits : wfits 128 1000 := by unfold wfits; decide
theorem wk1_ok : wk1.ok 0 := by unfold WS.ok wk1; decide
theorem wk2_ok : wk2.ok 0 := by unfold WS.ok wk2; decide
theorem wk3_ok : wk3.ok 0 := by unfold WS.ok wk3; decide
theorem only_new {w w1 w2 : World} (h : w.grownBy w1 none) {b : Nat} (hb : w.heap.size ≤ b) (k : w1.grownBy w2 (some b)) : w.grownBy w2 none :=
  ⟨k.os.trans h.os, k.tape.trans h.tape, k.output.trans h.output, Nat.le_trans h.size k.size, fun i hi hn => (k.block i (Nat.lt_of_lt_of_le hi h.size) (by simp; omega)).trans (h.block i hi hn)⟩

set_option maxRecDepth 100000 in
set_option maxHeartbeats 2000000 in
theorem works_any (w : World) : Calls Try.prog 9 #[] w fun e w' => e = .returned (.bool true) ∧ w.grownBy w' none := by
  have v0 : (WS.init 128 1000).size = 256 := by decide
  have v1 : (WS.init 128 1000).thresh = 1000 := rfl
  have v2 : wk2.size = 484 := rfl
  have v3 : wk3.size = 484 := rfl
  have v4 : wk4.size = 128 := rfl
  have v5 : wk4.thresh = 512 := rfl
  go_enter Try.func9, Try.ntmps9
  go_wp2_with fail
  refine (wnew_any 128 1000 wk_fits _).mono ?_
  rintro e w1 ⟨rfl, o1, g1⟩
  have O1 := Lib.hid o1
  have G1 := Lib.hid g1
  clear o1 g1
  go_wp2_with fail
  refine (size_any _ _ _ O1.out).mono ?_
  rintro e x1 ⟨rfl, rfl⟩
  go_wp2_with fail
  refine (thresh_any _ _ _ O1.out).mono ?_
  rintro e x2 ⟨rfl, rfl⟩
  go_wp2_with fail
  refine (acked_any _ (wok_init (p := 0) wk_fits (by decide)) (by decide) _ 100 (by decide) (by decide) true _ O1.out).mono ?_
  rintro e w2 ⟨rfl, o2, g2⟩
  rw [wk1_eq] at o2
  have O2 := Lib.hid o2
  have G2 := Lib.hid g2
  clear o2 g2
  go_wp2_with fail
  refine (acked_any _ wk1_ok (by decide) _ 500 (by decide) (by decide) true _ O2.out).mono ?_
  rintro e w3 ⟨rfl, o3, g3⟩
  rw [wk2_eq] at o3
  have O3 := Lib.hid o3
  have G3 := Lib.hid g3
  clear o3 g3
  go_wp2_with fail
  refine (acked_any _ wk2_ok (by decide) _ 9 (by decide) (by decide) false _ O3.out).mono ?_
  rintro e w4 ⟨rfl, o4, g4⟩
  rw [wk2b_eq] at o4
  have O4 := Lib.hid o4
  have G4 := Lib.hid g4
  clear o4 g4
  go_wp2_with fail
  refine (size_any _ _ _ O4.out).mono ?_
  rintro e x3 ⟨rfl, rfl⟩
  go_wp2_with fail
  refine (fast_any _ wk2_ok _ _ O4.out).mono ?_
  rintro e w5 ⟨rfl, o5, g5⟩
  rw [wk3_eq] at o5
  have O5 := Lib.hid o5
  have G5 := Lib.hid g5
  clear o5 g5
  go_wp2_with fail
  refine (size_any _ _ _ O5.out).mono ?_
  rintro e x4 ⟨rfl, rfl⟩
  go_wp2_with fail
  refine (timeout_any _ wk3_ok _ _ O5.out).mono ?_
  rintro e w6 ⟨rfl, o6, g6⟩
  rw [wk4_eq] at o6
  have O6 := Lib.hid o6
  have G6 := Lib.hid g6
  clear o6 g6
  go_wp2_with fail
  refine (size_any _ _ _ O6.out).mono ?_
  rintro e x5 ⟨rfl, rfl⟩
  go_wp2_with fail
  refine (thresh_any _ _ _ O6.out).mono ?_
  rintro e x6 ⟨rfl, rfl⟩
  go_wp2_with fail
  go_ret
  refine ⟨rfl, ?_⟩
  have n1 := Nat.le_refl w.heap.size
  exact only_new (only_new (only_new (only_new (only_new G1.out n1 G2.out) n1 G3.out) n1 G4.out) n1 G5.out) n1 G6.out

/-- The things done, as they come in: how many; of each its kind, its number, whether it is full. -/
def Ops (W : World) (v : Value) (x : Nat × (Nat → Int) × (Nat → Int) × (Nat → Bool)) : Prop :=
  IsSl W v x.1 3 (fun i j => if j = 0 then .int .i64 (x.2.1 i) else if j = 1 then .int .i64 (x.2.2.1 i) else .bool (x.2.2.2 i)) ∧ ∀ i, i < x.1 → (-9223372036854775808 ≤ x.2.1 i ∧ x.2.1 i ≤ 9223372036854775807) ∧ (-9223372036854775808 ≤ x.2.2.1 i ∧ x.2.2.1 i ≤ 9223372036854775807)
theorem opened22 {H : Type} {enc : TypeId × Value → H} {W : World} {r : Reach} {base : Nat} {v : Value} {d : DataW H} {p : List MemPlace}
    (hv : Value.okWide Try.prog W r base 22 v) (h : DataW.Trod enc Try.prog W 0 (fun _ => true) true 22 v d p) : ∃ x, Ops W v x := by
  obtain ⟨n, V, hsl, hV⟩ := openSl 3 Try.underlying22 Try.underlying33 (by kernel_rfl) (by kernel_rfl) rfl (by decide) hv h
  have e0 : ∀ i, i < n → ∃ c : Int, V i 0 = .int .i64 c ∧ (Lit.int .i64 c).wf = true := fun i hi => by
    obtain ⟨m, y, hy⟩ := hV i hi 0 _ rfl
    exact trod_int1 Try.underlying3 hy
  have e1 : ∀ i, i < n → ∃ c : Int, V i 1 = .int .i64 c ∧ (Lit.int .i64 c).wf = true := fun i hi => by
    obtain ⟨m, y, hy⟩ := hV i hi 1 _ rfl
    exact trod_int1 Try.underlying3 hy
  have e2 : ∀ i, i < n → ∃ c : Bool, V i 2 = .bool c := fun i hi => by
    obtain ⟨m, y, hy⟩ := hV i hi 2 _ rfl
    exact trod_bool1 Try.underlying4 hy
  obtain ⟨ks, hks⟩ := choose_lt e0
  obtain ⟨ts, hts⟩ := choose_lt e1
  obtain ⟨us, hus⟩ := choose_lt e2
  refine ⟨(n, ks, ts, us), isSl_congr hsl fun i j hi hj => ?_, fun i hi => ⟨bounds_i64 (hks i hi).2, bounds_i64 (hts i hi).2⟩⟩
  have : j = 0 ∨ j = 1 ∨ j = 2 := by omega
  rcases this with rfl | rfl | rfl
  · rw [(hks i hi).1]; rfl
  · rw [(hts i hi).1]; rfl
  · rw [hus i hi]; rfl

def PRel (W : World) (b1 b2 n : Nat) (i : Value) (wr : World) : Prop :=
  ∃ (k : Nat) (st : WS), k ≤ n ∧ i = .int .i64 (k : Int) ∧ st.ok (k * 16777216) ∧ obj wr b1 45 st.cells ∧ obj wr b2 47 st.cells ∧ Below W.heap.size W wr

set_option maxRecDepth 100000 in
set_option maxHeartbeats 8000000 in
theorem plays_good (f l : Int) (hf : wfits f l) (v : Value) (x : Nat × (Nat → Int) × (Nat → Int) × (Nat → Bool)) (W : World) (ho : Ops W v x) (hn : x.1 ≤ 500) :
    Calls Try.prog 3 #[.int .i64 f, .int .i64 l, v] W fun e w' => e = .returned (.bool true) ∧ Below W.heap.size W w' := by
  obtain ⟨n, ks, ts, us⟩ := x
  obtain ⟨⟨a, cap, rfl, hcap, hcap2, hsl⟩, hts⟩ := ho
  simp only at hn hts hsl hcap
  have HSL := Lib.hid hsl
  have HTS := Lib.hid hts
  have HF := Lib.hid hf
  clear hsl hts hf
  go_enter Try.func3, Try.ntmps3
  go_wp2_with fail
  refine (wnew_any f l HF.out _).mono ?_
  rintro e w1 ⟨rfl, o1, g1⟩
  have O1 := Lib.hid o1
  have G1 := Lib.hid g1
  clear o1 g1
  go_wp2_with fail
  refine (wnew_ref f l HF.out _).mono ?_
  rintro e w2 ⟨rfl, o2, g2⟩
  have O2 := Lib.hid o2
  have G2 := Lib.hid g2
  clear o2 g2
  go_wp2_with fail
  have hlt1 := O1.out.lt
  have hsz1 := G1.out.size
  go_loopw [11] (fun i wr => PRel W W.heap.size w1.heap.size n i wr) (fun i _ => n - (intOf i).toNat)
  case atStart =>
    exact ⟨0, WS.init f l, Nat.zero_le _, rfl, wok_init HF.out (by omega), O1.out.kept G2.out (by simp), O2.out, below_none (below_none (Below.refl _ _) G1.out) G2.out⟩
  case round =>
    obtain ⟨k, st, hk, rfl, hok, h1, h2, hbel⟩ := hrel
    have HOK := Lib.hid hok
    have H1 := Lib.hid h1
    have H2 := Lib.hid h2
    have HB := Lib.hid hbel
    clear hok h1 h2 hbel
    have hne : W.heap.size ≠ w1.heap.size := by omega
    by_cases hlt : k < n
    · rcases HSL.out with h0 | ⟨b, off, rfl, hb, hc⟩
      · omega
      have hr0 := sl_cell (hc k 0 hlt (by decide)) hb HB.out
      have hr1 := sl_cell (hc k 1 hlt (by decide)) hb HB.out
      have hr2 := sl_cell (hc k 2 hlt (by decide)) hb HB.out
      simp at hr0 hr1 hr2
      have ht := (HTS.out k hlt).2
      have hbne : b ≠ W.heap.size := by omega
      have hbne2 : b ≠ w1.heap.size := by omega
      clear hc
      have HOK2 := Lib.hid (wok_step HOK.out (by omega) (ks k) (ts k) (us k))
      go_wp2_with fail
      refine (does_any st HOK.out (by omega) _ (ks k) (ts k) ht.2 (us k) _ H1.out).mono ?_
      rintro e w3 ⟨rfl, o3, g3⟩
      have O3 := Lib.hid o3
      have G3 := Lib.hid g3
      have q0 := only_cell g3 hr0 hbne
      have q1 := only_cell g3 hr1 hbne
      have q2 := only_cell g3 hr2 hbne
      clear o3 g3
      have B3 := Lib.hid (H2.out.kept G3.out (by simp; omega))
      go_wp2_with fail
      refine (does_ref st HOK.out (by omega) _ (ks k) (ts k) ht.2 (us k) _ B3.out).mono ?_
      rintro e w4 ⟨rfl, o4, g4⟩
      have O4 := Lib.hid o4
      have G4 := Lib.hid g4
      clear o4 g4
      have A4 := Lib.hid (O3.out.kept G4.out (by simp; omega))
      have HB4 := Lib.hid (below_only (below_only HB.out G3.out (Nat.le_refl _)) G4.out (by omega))
      generalize st.step (ks k) (ts k) (us k) = sn at *
      go_wp2_with fail
      refine (size_any sn _ _ A4.out).mono ?_
      rintro e x7 ⟨rfl, rfl⟩
      go_wp2_with fail
      refine (size_ref sn _ _ O4.out).mono ?_
      rintro e x8 ⟨rfl, rfl⟩
      go_wp2_with fail
      refine (thresh_any sn _ _ A4.out).mono ?_
      rintro e x9 ⟨rfl, rfl⟩
      go_wp2_with fail
      refine (thresh_ref sn _ _ O4.out).mono ?_
      rintro e x10 ⟨rfl, rfl⟩
      go_wp2_with fail
      go_roundw
      case rel => exact ⟨k + 1, sn, by omega, by go_num, wok_more HOK2.out (by omega), A4.out, O4.out, HB4.out⟩
      case measure => simp [intOf]; omega
    · go_wp2_with (go_at_call 9; refine (works_any _).mono ?_; rintro e w9 ⟨rfl, g9⟩)
      go_ret
      exact ⟨rfl, below_none HB.out g9⟩
end Go.Proofs.Ythhbdaophhidhaa
