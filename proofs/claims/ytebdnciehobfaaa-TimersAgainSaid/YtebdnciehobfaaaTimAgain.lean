/- The walk of TimersAgain. No condition. -/
import Derived.Test.YtebdnciehobfaaaTimRows
namespace Go.Proofs.Ytebdnciehobfaaa
open Go.RowKit Go.ChangeShapes Go.WideShapes Go.Deep
set_option linter.unusedVariables false
set_option linter.unusedSimpArgs false

def ARel1 (W : World) (b n : Nat) (f : Nat → Int) (i : Value) (wr : World) : Prop :=
  ∃ k : Nat, k ≤ n ∧ i = .int .i64 (k : Int) ∧ heldI W wr b k (rows f k)
def now1 (f : Nat → Int) (k : Nat) (a : Int) (j : Nat) : Int := if j = k then a else f j
def ARel2 (W : World) (b n : Nat) (g : Nat → Int) (i : Value) (wr : World) : Prop :=
  ∃ (k : Nat) (M : List (Int × Int)), k ≤ n ∧ i = .int .i64 (k : Int) ∧ heldI W wr b (n + 1) M ∧ M.length + k = n ∧ ∀ y, y ∈ M → ∃ j : Nat, j < n ∧ y = ((j : Int), g j)
theorem again_start (f : Nat → Int) (n k : Nat) (a : Int) (hk : k < n) : (drp (k : Int) (rows f n) ++ [((k : Int), a)]).length = n ∧ ∀ y, y ∈ drp (k : Int) (rows f n) ++ [((k : Int), a)] → ∃ j : Nat, j < n ∧ y = ((j : Int), now1 f k a j) := by
  have hp : (rows f n).Pairwise (fun a b => a.1 ≠ b.1) := by
    unfold rows
    rw [List.pairwise_map]
    exact List.nodup_range.imp (fun h e => h (Int.ofNat.inj e))
  refine ⟨?_, fun y hy => ?_⟩
  · have := drp_length hp (x := ((k : Int), f k)) (mem_rows.2 ⟨k, hk, rfl⟩)
    rw [rows_length] at this
    simpa using this
  · simp only [List.mem_append, mem_drp, List.mem_singleton, mem_rows] at hy
    rcases hy with ⟨⟨j, hj, rfl⟩, hne⟩ | rfl
    · have hne : j ≠ k := fun e => hne (by rw [e])
      exact ⟨j, hj, by simp [now1, hne]⟩
    · exact ⟨k, hk, by simp [now1]⟩

set_option maxRecDepth 100000 in
set_option maxHeartbeats 8000000 in
theorem again_good (again : Int) (wh : Nat) (hwh : wh ≤ 65535) (v : Value) (x : Nat × (Nat → Int)) (W : World) (ho : Times W v x) (hn : x.1 ≤ 200) (hn0 : 0 < x.1) :
    Calls Try.prog 6 #[v, .int .i64 again, .int .u16 (wh : Int)] W fun e w' => e = .returned (.bool true) ∧ Below W.heap.size W w' := by
  obtain ⟨n, ts⟩ := x
  obtain ⟨⟨a, cap, rfl, hcap, hcap2, hsl⟩, hts⟩ := ho
  simp only at hn hn0 hts hsl hcap
  have HSL := Lib.hid hsl
  have HTS := Lib.hid hts
  have hk0 : wh % n < n := Nat.mod_lt _ hn0
  have e1 : decide ((200 : Int) < (n : Int)) = false := decide_eq_false (by omega)
  have e2 : ((n : Int) == 0) = false := by simp; omega
  clear hsl hts
  go_enter Try.func6, Try.ntmps6
  go_wp2_with fail
  refine (hnewI (Below.refl _ W)).mono ?_
  rintro e w1 ⟨rfl, h1⟩
  have H1 := Lib.hid h1
  clear h1
  go_wp2_with fail
  go_loopw [8] (fun i wr => ARel1 W (W.heap.size + 1) n ts i wr) (fun i _ => n - (intOf i).toNat)
  case atStart => exact ⟨0, Nat.zero_le _, rfl, H1.out⟩
  case round =>
    obtain ⟨k, hk, rfl, hh⟩ := hrel
    have HH := Lib.hid hh
    have HB := Lib.hid hh.below
    clear hh
    by_cases hlt : k < n
    · rcases HSL.out with h0 | ⟨b, off, rfl, hb, hc⟩
      · omega
      have hr0 := sl_cell (hc k 0 hlt (by decide)) hb HB.out
      simp at hr0
      clear hc
      go_wp2_with fail
      refine (hsetI HH.out (k : Int) (ts k) (keyI (wf_i64 (by omega))) (by omega)).mono ?_
      rintro e w2 ⟨rfl, h2⟩
      have H2 := Lib.hid (h2.val (rows_step ts k) (Nat.le_refl _))
      clear h2
      go_wp2_with fail
      go_roundw
      case rel => exact ⟨k + 1, by omega, by simp, H2.out⟩
      case measure => simp only [intOf]; omega
    · have hkn : k = n := by omega
      subst hkn
      have hmod : (wh : Int).tmod (k : Int) = ((wh % k : Nat) : Int) := by rw [Int.ofNat_tmod]
      obtain ⟨K0, hK0⟩ : ∃ K0, K0 = wh % k := ⟨_, rfl⟩
      rw [← hK0] at hmod hk0
      clear hK0
      go_wp2_with fail
      obtain ⟨s1, s2⟩ := again_start ts k K0 again hk0
      refine (hsetI HH.out (K0 : Int) again (keyI (wf_i64 (by omega))) (by omega)).mono ?_
      rintro e w2 ⟨rfl, h2⟩
      have H2 := Lib.hid h2
      clear h2
      go_wp2_with fail
      refine (hlenI H2.out).mono ?_
      rintro e w9 ⟨rfl, rfl⟩
      rw [s1]
      go_wp2_with fail
      go_loopw [10] (fun i wr => ARel2 W (W.heap.size + 1) k (now1 ts K0 again) i wr) (fun i _ => k - (intOf i).toNat)
      case atStart => exact ⟨0, _, Nat.zero_le _, rfl, H2.out, s1, s2⟩
      case round =>
        obtain ⟨i, M, hi, rfl, hm, hlen, hall⟩ := hrel
        have HM := Lib.hid hm
        have HALL := Lib.hid hall
        clear hm hall
        by_cases hlt : i < k
        · obtain ⟨y, hy⟩ := best_some (L := M) (fun e => by rw [e] at hlen; simp at hlen; omega)
          have hym := best_mem hy
          obtain ⟨j, hj, rfl⟩ := HALL.out y hym
          go_wp2_with fail
          refine (hnextI HM.out).mono ?_
          rintro e w3 ⟨rfl, h3⟩
          rw [hy]
          unfold outI mkI
          have H3 := Lib.hid h3
          clear h3
          have hn1 : (∃ x, x ∈ M ∧ x.1 = (j : Int)) := ⟨_, hym, rfl⟩
          have hn2 : ¬ (∃ x, x ∈ drp (j : Int) M ∧ x.1 = (j : Int)) := fun ⟨x, hx, e⟩ => (mem_drp.1 hx).2 e
          have hL := drp_length HM.out.keys hym
          have okj : okI (j : Int) := keyI (wf_i64 (by omega))
          have hdd := drp_drp (j : Int) M
          have HN := Lib.hid (And.intro hn1 hn2)
          clear hn1 hn2
          rcases HSL.out with h0 | ⟨b, off, rfl, hb, hc⟩
          · omega
          have hr0 := sl_cell (hc j 0 hj (by decide)) hb H3.out.below
          simp at hr0
          clear hc
          by_cases hjk : j = K0
          · have hw : now1 ts K0 again j = again := by simp [now1, hjk]
            subst hjk
            rw [hw]
            have q1 : ((j : Int) != (j : Int)) = false := by simp
            have q2 : (again != again) = false := by simp
            go_wp2_with fail
            refine (hstopI H3.out (j : Int) okj).mono ?_
            rintro e w4 ⟨rfl, h4⟩
            rw [decide_eq_true HN.out.1]
            have H4 := Lib.hid h4
            clear h4
            go_wp2_with fail
            refine (hstopI H4.out (j : Int) okj).mono ?_
            rintro e w5 ⟨rfl, h5⟩
            rw [decide_eq_false HN.out.2]
            have H5 := Lib.hid (h5.val (drp_drp _ _) (Nat.le_refl _))
            clear h5
            go_wp2_with fail
            go_roundw
            case rel => exact ⟨i + 1, _, by omega, by simp, H5.out, by omega, fun y hy => HALL.out y (mem_drp.1 hy).1⟩
            case measure => simp only [intOf]; omega
          · have hw : now1 ts K0 again j = ts j := by simp [now1, hjk]
            have hne : ¬ (j : Int) = (K0 : Int) := by omega
            have q1 : ((j : Int) != (K0 : Int)) = true := by simpa using hne
            have q2 : (ts j != ts j) = false := by simp
            rw [hw]
            go_wp2_with fail
            refine (hstopI H3.out (j : Int) okj).mono ?_
            rintro e w4 ⟨rfl, h4⟩
            rw [decide_eq_true HN.out.1]
            have H4 := Lib.hid h4
            clear h4
            go_wp2_with fail
            refine (hstopI H4.out (j : Int) okj).mono ?_
            rintro e w5 ⟨rfl, h5⟩
            rw [decide_eq_false HN.out.2]
            have H5 := Lib.hid (h5.val (drp_drp _ _) (Nat.le_refl _))
            clear h5
            go_wp2_with fail
            go_roundw
            case rel => exact ⟨i + 1, _, by omega, by simp, H5.out, by omega, fun y hy => HALL.out y (mem_drp.1 hy).1⟩
            case measure => simp only [intOf]; omega
        · have hik : i = k := by omega
          subst hik
          have hM0 : M = [] := nil_of_length (by omega)
          subst hM0
          go_wp2_with fail
          refine (hlenI HM.out).mono ?_
          rintro e w9 ⟨rfl, rfl⟩
          go_wp2_with (go_at_call 10; refine (works_any _).mono ?_; rintro e w9 ⟨rfl, g9⟩)
          go_ret
          exact ⟨rfl, below_works HM.out.below g9⟩
set_option maxHeartbeats 4000000 in
theorem timersAgain.walk (W : World) (v : Value) (x : Nat × (Nat → Int)) (ho : Times W v x) (again : Int) (wa : (Lit.int .i64 again).wf = true) (wh : Int) (ww : (Lit.int .u16 wh).wf = true) :
    Calls Try.prog 6 #[v, .int .i64 again, .int .u16 wh] W fun e w' => e = .returned (.bool true) ∧ Below W.heap.size W w' := by
  have hb := bounds_u16 ww
  obtain ⟨h, rfl⟩ := Int.eq_ofNat_of_zero_le hb.1
  by_cases hn : x.1 ≤ 200 ∧ 0 < x.1
  · exact again_good again h (by omega) v x W ho hn.1 hn.2
  · obtain ⟨n, ts⟩ := x
    obtain ⟨⟨a, cap, rfl, hcap, hcap2, hsl⟩, hts⟩ := ho
    simp only at hn hcap
    clear hsl hts
    by_cases h2 : 200 < n
    · have e1 : decide ((200 : Int) < (n : Int)) = true := decide_eq_true (by omega)
      go_enter Try.func6, Try.ntmps6
      go_wp2_with (go_at_call 10; refine (works_any _).mono ?_; rintro e w9 ⟨rfl, g9⟩)
      go_ret
      exact ⟨rfl, g9⟩
    · have h0 : n = 0 := by omega
      subst h0
      go_enter Try.func6, Try.ntmps6
      go_wp2_with (go_at_call 10; refine (works_any _).mono ?_; rintro e w9 ⟨rfl, g9⟩)
      go_ret
      exact ⟨rfl, g9⟩
end Go.Proofs.Ytebdnciehobfaaa
