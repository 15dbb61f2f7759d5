/- The walk of WindowAvoids. No condition. -/
import Derived.Test.YthhbdaophhidhaaWinSlow
namespace Go.Proofs.Ythhbdaophhidhaa
open Go.RowKit Go.ChangeShapes Go.WideShapes Go.Deep
set_option linter.unusedVariables false
set_option linter.unusedSimpArgs false

/-- Parts that came in. -/
def Parts (W : World) (v : Value) (x : Nat × (Nat → Int)) : Prop :=
  IsSl W v x.1 1 (fun i _ => .int .u16 (x.2 i)) ∧ ∀ i, i < x.1 → 0 ≤ x.2 i ∧ x.2 i ≤ 65535
theorem opened40 {H : Type} {enc : TypeId × Value → H} {W : World} {r : Reach} {base : Nat} {v : Value} {d : DataW H} {p : List MemPlace}
    (hv : Value.okWide Try.prog W r base 40 v) (h : DataW.Trod enc Try.prog W 0 (fun _ => true) true 40 v d p) : ∃ x, Parts W v x := by
  obtain ⟨n, V, hsl, hV⟩ := openSl1 Try.underlying40 (by kernel_rfl) hv h
  have e1 : ∀ i, i < n → ∃ c : Int, V i 0 = .int .u16 c ∧ (Lit.int .u16 c).wf = true := fun i hi => by
    obtain ⟨m, y, hy⟩ := hV i hi
    exact trod_int1 Try.underlying37 hy
  obtain ⟨ts, hts⟩ := choose_lt e1
  refine ⟨(n, ts), isSl_congr hsl fun i j hi hj => ?_, fun i hi => bounds_u16 (hts i hi).2⟩
  have : j = 0 := by omega
  subst this
  rw [(hts i hi).1]

theorem acked_all (x : WS) {p : Int} (hok : x.ok p) (hp : p ≤ 1000000000000) (b : Nat) (n : Int) (hn2 : n ≤ 9223372036854775807) (full : Bool) (w : World) (hx : obj w b 45 x.cells) :
    Calls Try.prog 19 #[.pointer (some ⟨b, 0, none⟩), .int .i64 n, .bool full] w fun e w' => e = .returned (.tuple #[]) ∧ obj w' b 45 (x.acked n full).cells ∧ w.grownBy w' (some b) := by
  by_cases h1 : n < 1
  · have e : x.acked n full = x := by unfold WS.acked; exact if_pos h1
    rw [e]
    refine (acked_any_small b n h1 full w).mono ?_
    rintro e w' ⟨rfl, rfl⟩
    exact ⟨rfl, hx, only_refl _ _⟩
  · exact acked_any x hok hp b n (by omega) hn2 full w hx

/-- A window ahead of the threshold. -/
def wa (f s : Int) : WS := ⟨f, 40 * f, s, 4 * f, 0⟩
theorem wa_ok {f s : Int} (hf : 128 ≤ f ∧ f ≤ 1500) (hs : f ≤ s ∧ s ≤ 40 * f) : (wa f s).ok 0 := by unfold WS.ok wa; simp only; omega
theorem wa_start {f : Int} (hf : 128 ≤ f) : (WS.init f (40 * f)).timeout.timeout = wa f f := by
  unfold WS.timeout WS.init wa
  simp only [WS.mk.injEq, true_and, and_true]
  omega
theorem wa_acked {f s : Int} (hf : 128 ≤ f) (hs : s ≤ 4 * f) : (wa f s).acked f true = wa f (s + f) := by
  unfold WS.acked WS.grow wa
  rw [if_neg (by omega)]
  simp only
  rw [if_neg (by omega)]
  simp only [WS.slow, WS.cap, WS.mk.injEq, if_true, true_and, and_true]
  omega

/-- Beyond the threshold: s is the size that is reckoned, t what was told. -/
def WS.far (x : WS) (f s t p : Int) : Prop := x.ok p ∧ x.mtu = f ∧ x.most = 40 * f ∧ x.thresh = 4 * f ∧ 5 * f ≤ s ∧ s ≤ 41 * f ∧ 0 ≤ t ∧ x.size = min s (40 * f) ∧ (s < 40 * f → x.part = t ∧ t < s)
theorem far_parts {x : WS} {f s t p : Int} (h : x.far f s t p) {n : Int} (hn : 0 ≤ n ∧ n < f) :
    (x.acked n true).mtu = f ∧ (x.acked n true).most = 40 * f ∧ (x.acked n true).thresh = 4 * f ∧
    (s < 40 * f → t + n < s → (x.acked n true).size = s ∧ (x.acked n true).part = t + n) ∧
    (s < 40 * f → s ≤ t + n → (x.acked n true).size = min (s + f) (40 * f) ∧ (x.acked n true).part = t + n - s) ∧
    (40 * f ≤ s → (x.acked n true).size = 40 * f) := by
  obtain ⟨h0, h1, h2, h3, h4, h5, h6, h7, h8⟩ := h
  unfold WS.ok at h0
  unfold WS.acked
  by_cases c1 : n < 1
  · rw [if_pos c1]
    refine ⟨h1, h2, h3, fun a b => ?_, fun a b => ?_, fun a => ?_⟩
    · have := h8 a; omega
    · have := h8 a; omega
    · omega
  · rw [if_neg c1]
    unfold WS.grow
    rw [if_pos (by omega)]
    unfold WS.avoid
    by_cases c2 : true = true ∧ x.size ≤ x.part + min n x.most
    · rw [if_pos c2]
      simp only [WS.cap]
      refine ⟨h1, h2, h3, fun a b => ?_, fun a b => ?_, fun a => ?_⟩
      · have := h8 a; omega
      · have := h8 a; omega
      · omega
    · rw [if_neg c2]
      simp only [WS.cap]
      have c3 : x.part + min n x.most < x.size := by
        rcases Int.lt_or_le (x.part + min n x.most) x.size with h | h
        · exact h
        · exact absurd ⟨rfl, h⟩ c2
      refine ⟨h1, h2, h3, fun a b => ?_, fun a b => ?_, fun a => ?_⟩
      · have := h8 a; omega
      · have := h8 a; omega
      · omega
/-- The three ways of a round. -/
theorem far_stay {x : WS} {f s t p : Int} (h : x.far f s t p) (hp : 0 ≤ p) (hf : 128 ≤ f) {n : Int} (hn : 0 ≤ n ∧ n < f) (a : s < 40 * f) (b : t + n < s) : (x.acked n true).far f s (t + n) (p + 16777216) := by
  have q := far_parts h hn
  obtain ⟨h0, h1, h2, h3, h4, h5, h6, h7, h8⟩ := h
  have z := q.2.2.2.1 a b
  exact ⟨wok_acked h0 hp n true, q.1, q.2.1, q.2.2.1, h4, h5, by omega, by omega, fun _ => ⟨z.2, b⟩⟩
theorem far_step {x : WS} {f s t p : Int} (h : x.far f s t p) (hp : 0 ≤ p) (hf : 128 ≤ f) {n : Int} (hn : 0 ≤ n ∧ n < f) (a : s < 40 * f) (b : s ≤ t + n) : (x.acked n true).far f (s + f) (t + n - s) (p + 16777216) := by
  have q := far_parts h hn
  obtain ⟨h0, h1, h2, h3, h4, h5, h6, h7, h8⟩ := h
  have z := q.2.2.2.2.1 a b
  have z8 := h8 a
  exact ⟨wok_acked h0 hp n true, q.1, q.2.1, q.2.2.1, by omega, by omega, by omega, z.1, fun _ => ⟨z.2, by omega⟩⟩
theorem far_full {x : WS} {f s t p : Int} (h : x.far f s t p) (hp : 0 ≤ p) (hf : 128 ≤ f) {n : Int} (hn : 0 ≤ n ∧ n < f) (a : 40 * f ≤ s) : (x.acked n true).far f s (t + n) (p + 16777216) := by
  have q := far_parts h hn
  obtain ⟨h0, h1, h2, h3, h4, h5, h6, h7, h8⟩ := h
  have z := q.2.2.2.2.2 a
  exact ⟨wok_acked h0 hp n true, q.1, q.2.1, q.2.2.1, h4, h5, by omega, by omega, fun c => absurd c (by omega)⟩

def ARel (W : World) (b1 n : Nat) (f : Int) (size told i : Value) (wr : World) : Prop :=
  ∃ (k : Nat) (s t : Int) (st : WS), k ≤ n ∧ i = .int .i64 (k : Int) ∧ size = .int .i64 s ∧ told = .int .i64 t ∧ t ≤ (k : Int) * 1500 ∧ st.far f s t (k * 16777216) ∧ obj wr b1 45 st.cells ∧ Below W.heap.size W wr

set_option maxRecDepth 100000 in
set_option maxHeartbeats 16000000 in
theorem avoids_good (f : Int) (hf : 128 ≤ f ∧ f ≤ 1500) (v : Value) (x : Nat × (Nat → Int)) (W : World) (ho : Parts W v x) (hn : x.1 ≤ 200) :
    Calls Try.prog 6 #[.int .i64 f, v] W fun e w' => e = .returned (.bool true) ∧ Below W.heap.size W w' := by
  obtain ⟨n, ts⟩ := x
  obtain ⟨⟨a, cap, rfl, hcap, hcap2, hsl⟩, hts⟩ := ho
  simp only at hn hts hsl hcap
  have HSL := Lib.hid hsl
  have HTS := Lib.hid hts
  have HF := Lib.hid (show wfits f (40 * f) by unfold wfits; omega)
  have HOK1 := Lib.hid (wok_init (p := 0) HF.out (Int.le_refl 0))
  have HOK2 := Lib.hid (wok_timeout HOK1.out (Int.le_refl 0))
  clear hsl hts
  go_enter Try.func6, Try.ntmps6
  go_wp2_with fail
  refine (wnew_any f (40 * f) HF.out _).mono ?_
  rintro e w1 ⟨rfl, o1, g1⟩
  have O1 := Lib.hid o1
  have G1 := Lib.hid g1
  clear o1 g1
  go_wp2_with fail
  refine (timeout_any _ HOK1.out _ _ O1.out).mono ?_
  rintro e w2 ⟨rfl, o2, g2⟩
  have O2 := Lib.hid o2
  have G2 := Lib.hid g2
  clear o2 g2
  go_wp2_with fail
  refine (timeout_any _ HOK2.out _ _ O2.out).mono ?_
  rintro e w3 ⟨rfl, o3, g3⟩
  rw [wa_start hf.1] at o3
  have O3 := Lib.hid o3
  have G3 := Lib.hid g3
  clear o3 g3
  have HB3 := Lib.hid (below_only (below_only (below_none (Below.refl W.heap.size W) G1.out) G2.out (Nat.le_refl _)) G3.out (Nat.le_refl _))
  go_wp2_with fail
  refine wp_loop_rounds 6 ?_
  rw [rounds_succ]
  have vs0 : (wa f (f)).size = f := rfl
  have vt0 : (wa f (f)).thresh = 4 * f := rfl
  go_wp2_with fail
  refine (size_any (wa f (f)) _ _ O3.out).mono ?_
  rintro e x1 ⟨rfl, rfl⟩
  go_wp2_with fail
  refine (thresh_any (wa f (f)) _ _ O3.out).mono ?_
  rintro e x2 ⟨rfl, rfl⟩
  go_wp2_with fail
  refine (size_any (wa f (f)) _ _ O3.out).mono ?_
  rintro e x3 ⟨rfl, rfl⟩
  go_wp2_with fail
  refine (acked_any (wa f (f)) (wa_ok hf (by omega)) (by decide) _ f (by omega) (by omega) true _ O3.out).mono ?_
  rintro e w4 ⟨rfl, o4, g4⟩
  rw [wa_acked hf.1 (by omega)] at o4
  have O4 := Lib.hid o4
  have G4 := Lib.hid g4
  clear o4 g4
  have HB4 := Lib.hid (below_only HB3.out G4.out (Nat.le_refl _))
  have vn0 : (wa f (f + f)).size = f + f := rfl
  go_wp2_with fail
  refine (size_any (wa f (f + f)) _ _ O4.out).mono ?_
  rintro e x4 ⟨rfl, rfl⟩
  go_wp2_with fail
  rw [rounds_succ]
  have vs1 : (wa f (f + f)).size = f + f := rfl
  have vt1 : (wa f (f + f)).thresh = 4 * f := rfl
  go_wp2_with fail
  refine (size_any (wa f (f + f)) _ _ O4.out).mono ?_
  rintro e x5 ⟨rfl, rfl⟩
  go_wp2_with fail
  refine (thresh_any (wa f (f + f)) _ _ O4.out).mono ?_
  rintro e x6 ⟨rfl, rfl⟩
  go_wp2_with fail
  refine (size_any (wa f (f + f)) _ _ O4.out).mono ?_
  rintro e x7 ⟨rfl, rfl⟩
  go_wp2_with fail
  refine (acked_any (wa f (f + f)) (wa_ok hf (by omega)) (by decide) _ f (by omega) (by omega) true _ O4.out).mono ?_
  rintro e w5 ⟨rfl, o5, g5⟩
  rw [wa_acked hf.1 (by omega)] at o5
  have O5 := Lib.hid o5
  have G5 := Lib.hid g5
  clear o5 g5
  have HB5 := Lib.hid (below_only HB4.out G5.out (Nat.le_refl _))
  have vn1 : (wa f (f + f + f)).size = f + f + f := rfl
  go_wp2_with fail
  refine (size_any (wa f (f + f + f)) _ _ O5.out).mono ?_
  rintro e x8 ⟨rfl, rfl⟩
  go_wp2_with fail
  rw [rounds_succ]
  have vs2 : (wa f (f + f + f)).size = f + f + f := rfl
  have vt2 : (wa f (f + f + f)).thresh = 4 * f := rfl
  go_wp2_with fail
  refine (size_any (wa f (f + f + f)) _ _ O5.out).mono ?_
  rintro e x9 ⟨rfl, rfl⟩
  go_wp2_with fail
  refine (thresh_any (wa f (f + f + f)) _ _ O5.out).mono ?_
  rintro e x10 ⟨rfl, rfl⟩
  go_wp2_with fail
  refine (size_any (wa f (f + f + f)) _ _ O5.out).mono ?_
  rintro e x11 ⟨rfl, rfl⟩
  go_wp2_with fail
  refine (acked_any (wa f (f + f + f)) (wa_ok hf (by omega)) (by decide) _ f (by omega) (by omega) true _ O5.out).mono ?_
  rintro e w6 ⟨rfl, o6, g6⟩
  rw [wa_acked hf.1 (by omega)] at o6
  have O6 := Lib.hid o6
  have G6 := Lib.hid g6
  clear o6 g6
  have HB6 := Lib.hid (below_only HB5.out G6.out (Nat.le_refl _))
  have vn2 : (wa f (f + f + f + f)).size = f + f + f + f := rfl
  go_wp2_with fail
  refine (size_any (wa f (f + f + f + f)) _ _ O6.out).mono ?_
  rintro e x12 ⟨rfl, rfl⟩
  go_wp2_with fail
  rw [rounds_succ]
  have vs3 : (wa f (f + f + f + f)).size = f + f + f + f := rfl
  have vt3 : (wa f (f + f + f + f)).thresh = 4 * f := rfl
  go_wp2_with fail
  refine (size_any (wa f (f + f + f + f)) _ _ O6.out).mono ?_
  rintro e x13 ⟨rfl, rfl⟩
  go_wp2_with fail
  refine (thresh_any (wa f (f + f + f + f)) _ _ O6.out).mono ?_
  rintro e x14 ⟨rfl, rfl⟩
  go_wp2_with fail
  refine (size_any (wa f (f + f + f + f)) _ _ O6.out).mono ?_
  rintro e x15 ⟨rfl, rfl⟩
  go_wp2_with fail
  refine (acked_any (wa f (f + f + f + f)) (wa_ok hf (by omega)) (by decide) _ f (by omega) (by omega) true _ O6.out).mono ?_
  rintro e w7 ⟨rfl, o7, g7⟩
  rw [wa_acked hf.1 (by omega)] at o7
  have O7 := Lib.hid o7
  have G7 := Lib.hid g7
  clear o7 g7
  have HB7 := Lib.hid (below_only HB6.out G7.out (Nat.le_refl _))
  have vn3 : (wa f (f + f + f + f + f)).size = f + f + f + f + f := rfl
  go_wp2_with fail
  refine (size_any (wa f (f + f + f + f + f)) _ _ O7.out).mono ?_
  rintro e x16 ⟨rfl, rfl⟩
  go_wp2_with fail
  rw [rounds_succ]
  have vs4 : (wa f (f + f + f + f + f)).size = f + f + f + f + f := rfl
  have vt4 : (wa f (f + f + f + f + f)).thresh = 4 * f := rfl
  go_wp2_with fail
  refine (size_any (wa f (f + f + f + f + f)) _ _ O7.out).mono ?_
  rintro e x17 ⟨rfl, rfl⟩
  go_wp2_with fail
  refine (thresh_any (wa f (f + f + f + f + f)) _ _ O7.out).mono ?_
  rintro e x18 ⟨rfl, rfl⟩
  go_wp2_with fail
  refine (size_any (wa f (f + f + f + f + f)) _ _ O7.out).mono ?_
  rintro e x19 ⟨rfl, rfl⟩
  go_wp2_with fail
  have e5 : f + f + f + f + f = 5 * f := by omega
  have O8 := Lib.hid (show obj w7 W.heap.size 45 (wa f (5 * f)).cells from by rw [← e5]; exact O7.out)
  have HB8 := Lib.hid HB7.out
  have E5 := Lib.hid e5
  clear e5
  clear vs0 vt0
  clear vs1 vt1
  clear vs2 vt2
  clear vs3 vt3
  clear vs4 vt4
  clear vn0
  clear vn1
  clear vn2
  clear vn3
  go_loopw [8, 9, 10] (fun s t i wr => ARel W W.heap.size n f s t i wr) (fun _ _ i _ => n - (intOf i).toNat)
  case atStart => exact ⟨0, 5 * f, 0, wa f (5 * f), Nat.zero_le _, rfl, by rw [E5.out], rfl, by omega, ⟨wok_more (wa_ok hf (by omega)) (by omega), rfl, rfl, rfl, by omega, by omega, by omega, by simp only [wa]; omega, fun _ => ⟨rfl, by omega⟩⟩, O8.out, HB8.out⟩
  case round =>
    obtain ⟨wo, rfl⟩ : ∃ wo : World, wo = wr := ⟨_, rfl⟩
    obtain ⟨k, s, t, st, hk, rfl, rfl, rfl, htk, hfar, h1, hbel⟩ := hrel
    have FAR := Lib.hid hfar
    have H1 := Lib.hid h1
    have HB := Lib.hid hbel
    have hs1 : 5 * f ≤ s ∧ s ≤ 41 * f ∧ 0 ≤ t := ⟨hfar.2.2.2.2.1, hfar.2.2.2.2.2.1, hfar.2.2.2.2.2.2.1⟩
    clear hfar h1 hbel
    by_cases hlt : k < n
    · rcases HSL.out with h0 | ⟨b, off, rfl, hb, hc⟩
      · omega
      have hr0 := sl_cell (hc k 0 hlt (by decide)) hb HB.out
      simp only [Nat.add_zero, Nat.mul_one] at hr0
      have ht := HTS.out k hlt
      clear hc
      have hN0 : 0 ≤ ts k % f := Int.emod_nonneg _ (by omega)
      have hN1 : ts k % f < f := Int.emod_lt_of_pos _ (by omega)
      go_wp2_with fail
      refine (acked_all st FAR.out.1 (by omega) _ (ts k % f) (by omega) true _ H1.out).mono ?_
      rintro e w9 ⟨rfl, o9, g9⟩
      have O9 := Lib.hid o9
      have G9 := Lib.hid g9
      clear o9 g9
      have HB9 := Lib.hid (below_only HB.out G9.out (Nat.le_refl _))
      have HN := Lib.hid (show 0 ≤ ts k % f ∧ ts k % f < f from ⟨hN0, hN1⟩)
      generalize hNN : ts k % f = N at *
      clear hNN
      by_cases h40 : s < 40 * f
      · by_cases hst : t + N < s
        · have X : True := trivial
          have FAR2 := Lib.hid (far_stay FAR.out (by omega) hf.1 HN.out h40 hst)
          have sv : (st.acked N true).size = min (s) (40 * f) := FAR2.out.2.2.2.2.2.2.2.1
          by_cases hmm : 40 * f < s
          · omega
          · have e1 : ((st.acked N true).size != s) = false := by rw [sv]; simp; omega
            clear sv
            go_wp2_with fail
            refine wp_loop_rounds 1 ?_
            rw [rounds_succ]
            go_wp2_with fail
            refine (size_any (st.acked N true) _ _ O9.out).mono ?_
            rintro e x20 ⟨rfl, rfl⟩
            go_wp2_with fail
            go_roundw
            case rel => exact ⟨k + 1, s, t + N, _, by omega, by go_num, rfl, rfl, by omega, ⟨wok_more FAR2.out.1 (by omega), FAR2.out.2⟩, O9.out, HB9.out⟩
            case measure => simp [intOf]; omega
        · have hst2 : s ≤ t + N := by omega
          have htt := (FAR.out.2.2.2.2.2.2.2.2 h40).2
          have FAR2 := Lib.hid (far_step FAR.out (by omega) hf.1 HN.out h40 hst2)
          have sv : (st.acked N true).size = min (s + f) (40 * f) := FAR2.out.2.2.2.2.2.2.2.1
          by_cases hmm : 40 * f < s + f
          · have e1 : ((st.acked N true).size != 40 * f) = false := by rw [sv]; simp; omega
            clear sv
            go_wp2_with fail
            refine wp_loop_rounds 2 ?_
            rw [rounds_succ]
            go_wp2_with fail
            rw [rounds_succ]
            go_wp2_with fail
            refine (size_any (st.acked N true) _ _ O9.out).mono ?_
            rintro e x21 ⟨rfl, rfl⟩
            go_wp2_with fail
            go_roundw
            case rel => exact ⟨k + 1, s + f, t + N - s, _, by omega, by go_num, rfl, rfl, by omega, ⟨wok_more FAR2.out.1 (by omega), FAR2.out.2⟩, O9.out, HB9.out⟩
            case measure => simp [intOf]; omega
          · have e1 : ((st.acked N true).size != s + f) = false := by rw [sv]; simp; omega
            clear sv
            go_wp2_with fail
            refine wp_loop_rounds 2 ?_
            rw [rounds_succ]
            go_wp2_with fail
            rw [rounds_succ]
            go_wp2_with fail
            refine (size_any (st.acked N true) _ _ O9.out).mono ?_
            rintro e x22 ⟨rfl, rfl⟩
            go_wp2_with fail
            go_roundw
            case rel => exact ⟨k + 1, s + f, t + N - s, _, by omega, by go_num, rfl, rfl, by omega, ⟨wok_more FAR2.out.1 (by omega), FAR2.out.2⟩, O9.out, HB9.out⟩
            case measure => simp [intOf]; omega
      · by_cases hst : t + N < s
        · have X : True := trivial
          have FAR2 := Lib.hid (far_full FAR.out (by omega) hf.1 HN.out (by omega))
          have sv : (st.acked N true).size = min (s) (40 * f) := FAR2.out.2.2.2.2.2.2.2.1
          by_cases hmm : 40 * f < s
          · have e1 : ((st.acked N true).size != 40 * f) = false := by rw [sv]; simp; omega
            clear sv
            go_wp2_with fail
            refine wp_loop_rounds 1 ?_
            rw [rounds_succ]
            go_wp2_with fail
            refine (size_any (st.acked N true) _ _ O9.out).mono ?_
            rintro e x23 ⟨rfl, rfl⟩
            go_wp2_with fail
            go_roundw
            case rel => exact ⟨k + 1, s, t + N, _, by omega, by go_num, rfl, rfl, by omega, ⟨wok_more FAR2.out.1 (by omega), FAR2.out.2⟩, O9.out, HB9.out⟩
            case measure => simp [intOf]; omega
          · have e1 : ((st.acked N true).size != s) = false := by rw [sv]; simp; omega
            clear sv
            go_wp2_with fail
            refine wp_loop_rounds 1 ?_
            rw [rounds_succ]
            go_wp2_with fail
            refine (size_any (st.acked N true) _ _ O9.out).mono ?_
            rintro e x24 ⟨rfl, rfl⟩
            go_wp2_with fail
            go_roundw
            case rel => exact ⟨k + 1, s, t + N, _, by omega, by go_num, rfl, rfl, by omega, ⟨wok_more FAR2.out.1 (by omega), FAR2.out.2⟩, O9.out, HB9.out⟩
            case measure => simp [intOf]; omega
        · have hst2 : s ≤ t + N := by omega
          have FAR2 := Lib.hid (far_full FAR.out (by omega) hf.1 HN.out (by omega))
          have sv : (st.acked N true).size = min (s) (40 * f) := FAR2.out.2.2.2.2.2.2.2.1
          by_cases hmm : 40 * f < s
          · have e1 : ((st.acked N true).size != 40 * f) = false := by rw [sv]; simp; omega
            clear sv
            go_wp2_with fail
            refine wp_loop_rounds 1 ?_
            rw [rounds_succ]
            go_wp2_with fail
            refine (size_any (st.acked N true) _ _ O9.out).mono ?_
            rintro e x25 ⟨rfl, rfl⟩
            go_wp2_with fail
            go_roundw
            case rel => exact ⟨k + 1, s, t + N, _, by omega, by go_num, rfl, rfl, by omega, ⟨wok_more FAR2.out.1 (by omega), FAR2.out.2⟩, O9.out, HB9.out⟩
            case measure => simp [intOf]; omega
          · have e1 : ((st.acked N true).size != s) = false := by rw [sv]; simp; omega
            clear sv
            go_wp2_with fail
            refine wp_loop_rounds 1 ?_
            rw [rounds_succ]
            go_wp2_with fail
            refine (size_any (st.acked N true) _ _ O9.out).mono ?_
            rintro e x26 ⟨rfl, rfl⟩
            go_wp2_with fail
            go_roundw
            case rel => exact ⟨k + 1, s, t + N, _, by omega, by go_num, rfl, rfl, by omega, ⟨wok_more FAR2.out.1 (by omega), FAR2.out.2⟩, O9.out, HB9.out⟩
            case measure => simp [intOf]; omega
    · go_wp2_with (go_at_call 9; refine (works_any _).mono ?_; rintro e w99 ⟨rfl, g99⟩)
      go_ret
      exact ⟨rfl, below_none HB.out g99⟩

theorem windowAvoids.walk (W : World) (f : Int) (wf : (Lit.int .i64 f).wf = true) (v : Value) (x : Nat × (Nat → Int)) (ho : Parts W v x) :
    Calls Try.prog 6 #[.int .i64 f, v] W fun e w' => e = .returned (.bool true) ∧ Below W.heap.size W w' := by
  by_cases hf : 128 ≤ f ∧ f ≤ 1500
  · by_cases hn : x.1 ≤ 200
    · exact avoids_good f hf v x W ho hn
    · obtain ⟨n, ts⟩ := x
      obtain ⟨⟨a, cap, rfl, hcap, hcap2, hsl⟩, hts⟩ := ho
      simp only at hn
      have hn2 : 200 < n := by omega
      obtain ⟨hf1, hf2⟩ := hf
      clear hsl hts hn
      go_enter Try.func6, Try.ntmps6
      go_wp2_with (go_at_call 9; refine (works_any _).mono ?_; rintro e w99 ⟨rfl, g99⟩)
      go_ret
      exact ⟨rfl, below_none (Below.refl _ _) g99⟩
  · obtain ⟨n, ts⟩ := x
    obtain ⟨⟨a, cap, rfl, hcap, hcap2, hsl⟩, hts⟩ := ho
    clear hsl hts wf
    by_cases hf1 : f < 128
    · clear hf
      go_enter Try.func6, Try.ntmps6
      go_wp2_with (go_at_call 9; refine (works_any _).mono ?_; rintro e w99 ⟨rfl, g99⟩)
      go_ret
      exact ⟨rfl, below_none (Below.refl _ _) g99⟩
    · have hf2 : 1500 < f := by omega
      clear hf
      go_enter Try.func6, Try.ntmps6
      go_wp2_with (go_at_call 9; refine (works_any _).mono ?_; rintro e w99 ⟨rfl, g99⟩)
      go_ret
      exact ⟨rfl, below_none (Below.refl _ _) g99⟩
end Go.Proofs.Ythhbdaophhidhaa
