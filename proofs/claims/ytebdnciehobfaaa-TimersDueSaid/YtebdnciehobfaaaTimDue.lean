/- The walk of TimersDue. No condition. -/
import Derived.Test.YtebdnciehobfaaaTimRows
import Derived.Test.YtebdnciehobfaaaTimHeldU
import Derived.Test.YtebdnciehobfaaaTimTails
namespace Go.Proofs.Ytebdnciehobfaaa
open Go.RowKit Go.ChangeShapes Go.WideShapes Go.Deep
set_option linter.unusedVariables false
set_option linter.unusedSimpArgs false

def dueP (now : Int) (y : Int × Int) : Bool := decide (y.2 ≤ now)
def dueC (f : Nat → Int) (now : Int) (n : Nat) : Nat := (rows f n).countP (dueP now)
theorem dueC_succ (f : Nat → Int) (now : Int) (n : Nat) : dueC f now (n + 1) = dueC f now n + (if f n ≤ now then 1 else 0) := by
  unfold dueC
  rw [rows_succ, List.countP_append]
  by_cases h : f n ≤ now
  · rw [if_pos h]; simp [List.countP_cons, dueP, h]
  · rw [if_neg h]; simp [List.countP_cons, dueP, h]
theorem dueC_le (f : Nat → Int) (now : Int) (n : Nat) : dueC f now n ≤ n := by
  have := List.countP_le_length (p := dueP now) (l := rows f n)
  rw [rows_length] at this
  exact this
theorem countP_drp {L : List (Int × Int)} (hp : L.Pairwise (fun a b => a.1 ≠ b.1)) {x : Int × Int} (hx : x ∈ L) (p : Int × Int → Bool) : L.countP p = (drp x.1 L).countP p + (if p x then 1 else 0) := by
  rw [(drp_perm hp hx).countP_eq, List.countP_cons]
/-- Some were popped. -/
structure DueS (f : Nat → Int) (now : Int) (n i : Nat) (M : List (Int × Int)) : Prop where
  mem : ∀ y, y ∈ M → ∃ j : Nat, j < n ∧ y = ((j : Int), f j)
  late : ∀ j : Nat, j < n → now < f j → ((j : Int), f j) ∈ M
  cnt : M.countP (dueP now) + i = dueC f now n
  len : M.length + i = n
theorem due_start (f : Nat → Int) (now : Int) (n : Nat) : DueS f now n 0 (rows f n) :=
  ⟨fun y hy => mem_rows.1 hy, fun j hj _ => mem_rows.2 ⟨j, hj, rfl⟩, rfl, rows_length f n⟩
theorem due_pop {f : Nat → Int} {now : Int} {n i : Nat} {M : List (Int × Int)} (h : DueS f now n i M) (hp : M.Pairwise (fun a b => a.1 ≠ b.1)) (hi : i < dueC f now n) :
    ∃ j : Nat, j < n ∧ f j ≤ now ∧ popVU now M = ((j : Int), true) ∧ DueS f now n (i + 1) (popLU now M) := by
  have hc : 0 < M.countP (dueP now) := by have := h.cnt; omega
  obtain ⟨y, hy, hyd⟩ := List.countP_pos_iff.1 hc
  obtain ⟨x, hx⟩ := best_some (L := M) (fun e => by rw [e] at hy; cases hy)
  have hxm := best_mem hx
  have hle := best_le hx y hy
  have hd : x.2 ≤ now := by simp [dueP] at hyd; omega
  obtain ⟨j, hj, rfl⟩ := h.mem x hxm
  refine ⟨j, hj, hd, by unfold popVU; rw [hx]; dsimp only; rw [if_pos hd], ?_⟩
  have e1 : popLU now M = drp (j : Int) M := by unfold popLU; rw [hx]; dsimp only; rw [if_pos hd]
  rw [e1]
  refine ⟨fun y hy => h.mem y (mem_drp.1 hy).1, fun k hk hn => mem_drp.2 ⟨h.late k hk hn, fun e => ?_⟩, ?_, ?_⟩
  · have : k = j := Int.ofNat.inj e
    subst this
    have : f k ≤ now := hd
    omega
  · have := countP_drp hp hxm (dueP now)
    rw [if_pos (show dueP now ((j : Int), f j) = true by simp [dueP]; exact hd)] at this
    have hh : M.countP (dueP now) = (drp (j : Int) M).countP (dueP now) + 1 := this
    have := h.cnt
    omega
  · have hh : (drp (j : Int) M).length + 1 = M.length := drp_length hp hxm
    have := h.len
    omega
theorem due_end {f : Nat → Int} {now : Int} {n : Nat} {M : List (Int × Int)} (h : DueS f now n (dueC f now n) M) : popVU now M = (0, false) ∧ popLU now M = M ∧ tailed2 f now 0 n M := by
  have hc : M.countP (dueP now) = 0 := by have := h.cnt; omega
  rw [List.countP_eq_zero] at hc
  have hn : ∀ x, best M = some x → ¬ x.2 ≤ now := fun x hx => by have := hc x (best_mem hx); simpa [dueP] using this
  refine ⟨?_, ?_, fun y => ⟨fun hy => ?_, ?_⟩⟩
  · unfold popVU
    cases hb : best M with
    | none => rfl
    | some x => dsimp only; rw [if_neg (hn x hb)]
  · unfold popLU
    cases hb : best M with
    | none => rfl
    | some x => dsimp only; rw [if_neg (hn x hb)]
  · obtain ⟨j, hj, rfl⟩ := h.mem y hy
    refine ⟨j, Nat.zero_le _, hj, ?_, rfl⟩
    have := hc _ hy
    simpa [dueP] using this
  · rintro ⟨j, _, hj, hl, rfl⟩
    exact h.late j hj hl
def DRel1 (W : World) (b n : Nat) (f : Nat → Int) (now : Int) (due i : Value) (wr : World) : Prop :=
  ∃ k : Nat, k ≤ n ∧ i = .int .i64 (k : Int) ∧ due = .int .i64 (dueC f now k : Int) ∧ heldU W wr b k (rows f k)
def DRel2 (W : World) (b n : Nat) (f : Nat → Int) (now : Int) (i : Value) (wr : World) : Prop :=
  ∃ (k : Nat) (M : List (Int × Int)), k ≤ dueC f now n ∧ i = .int .i64 (k : Int) ∧ heldU W wr b n M ∧ DueS f now n k M
def DRel3 (W : World) (b n : Nat) (f : Nat → Int) (now : Int) (i : Value) (wr : World) : Prop :=
  ∃ (k : Nat) (M : List (Int × Int)), k ≤ n ∧ i = .int .i64 (k : Int) ∧ heldU W wr b n M ∧ tailed2 f now k n M
theorem wf_u16 {x : Nat} (h : x ≤ 65535) : (Lit.int .u16 (x : Int)).wf = true := by
  simp [Lit.wf, IntKind.min, IntKind.max, IntKind.signed, IntKind.bits]; omega

set_option maxRecDepth 100000 in
set_option maxHeartbeats 16000000 in
theorem due_good (now : Int) (v : Value) (x : Nat × (Nat → Int)) (W : World) (ho : Times W v x) (hn : x.1 ≤ 200) :
    Calls Try.prog 5 #[v, .int .i64 now] W fun e w' => e = .returned (.bool true) ∧ Below W.heap.size W w' := by
  obtain ⟨n, ts⟩ := x
  obtain ⟨⟨a, cap, rfl, hcap, hcap2, hsl⟩, hts⟩ := ho
  simp only at hn hts hsl hcap
  have HSL := Lib.hid hsl
  have HTS := Lib.hid hts
  clear hsl hts
  go_enter Try.func5, Try.ntmps5
  go_wp2_with fail
  refine (hnewU (Below.refl _ W)).mono ?_
  rintro e w1 ⟨rfl, h1⟩
  have H1 := Lib.hid h1
  clear h1
  go_wp2_with fail
  go_loopw [6, 7] (fun due i wr => DRel1 W (W.heap.size + 1) n ts now due i wr) (fun _ i _ => n - (intOf i).toNat)
  case atStart => exact ⟨0, Nat.zero_le _, rfl, rfl, H1.out⟩
  case round =>
    obtain ⟨k, hk, rfl, rfl, hh⟩ := hrel
    have HH := Lib.hid hh
    have HB := Lib.hid hh.below
    clear hh
    have hdl := dueC_le ts now k
    by_cases hlt : k < n
    · rcases HSL.out with h0 | ⟨b, off, rfl, hb, hc⟩
      · omega
      have hr0 := sl_cell (hc k 0 hlt (by decide)) hb HB.out
      simp at hr0
      have hcv : IntKind.u16.wrap (k : Int) = (k : Int) := IntWalk.u16_in _ (by omega)
      go_wp2_with fail
      refine (hsetU HH.out (k : Int) (ts k) (keyU (wf_u16 (by omega))) (by omega)).mono ?_
      rintro e w2 ⟨rfl, h2⟩
      have H2 := Lib.hid (h2.val (rows_step ts k) (Nat.le_refl _))
      clear h2
      have hr1 := sl_cell (hc k 0 hlt (by decide)) hb H2.out.below
      simp at hr1
      clear hc
      by_cases hle : ts k ≤ now
      · have ed := dueC_succ ts now k
        rw [if_pos hle] at ed
        go_wp2_with fail
        go_roundw
        case rel => exact ⟨k + 1, by omega, by go_num, by rw [ed]; go_num, H2.out⟩
        case measure => simp only [intOf]; omega
      · have ed := dueC_succ ts now k
        rw [if_neg hle] at ed
        go_wp2_with fail
        go_roundw
        case rel => exact ⟨k + 1, by omega, by go_num, by rw [ed]; rfl, H2.out⟩
        case measure => simp only [intOf]; omega
    · have hkn : k = n := by omega
      subst hkn
      go_wp2_with fail
      go_loopw [8] (fun i wr => DRel2 W (W.heap.size + 1) k ts now i wr) (fun i _ => dueC ts now k - (intOf i).toNat)
      case atStart => exact ⟨0, _, Nat.zero_le _, rfl, HH.out, due_start ts now k⟩
      case round =>
        obtain ⟨i, M, hi, rfl, hm, hs⟩ := hrel
        have HM := Lib.hid hm
        have HS := Lib.hid hs
        clear hm hs
        by_cases hlt : i < dueC ts now k
        · obtain ⟨j, hj, hd, ev, hs2⟩ := due_pop HS.out HM.out.keys hlt
          have HS2 := Lib.hid hs2
          clear hs2
          go_wp2_with fail
          refine (hpopU HM.out now).mono ?_
          rintro e w3 ⟨rfl, h3⟩
          rw [ev]
          unfold mkU
          have H3 := Lib.hid h3
          clear h3
          rcases HSL.out with h0 | ⟨b, off, rfl, hb, hc⟩
          · omega
          have hr0 := sl_cell (hc j 0 hj (by decide)) hb H3.out.below
          simp at hr0
          clear hc
          go_wp2_with fail
          go_roundw
          case rel => exact ⟨i + 1, _, by omega, by go_num, H3.out, HS2.out⟩
          case measure => simp only [intOf]; omega
        · have hid : i = dueC ts now k := by omega
          obtain ⟨ev, eL, ht⟩ := due_end (by rw [← hid]; exact HS.out)
          have HT := Lib.hid ht
          have hlen : (M.length : Int) = (k : Int) - (dueC ts now k : Int) := by have := HS.out.len; omega
          have q1 : ((k : Int) - (dueC ts now k : Int) != (k : Int) - (dueC ts now k : Int)) = false := by simp
          clear ht
          go_wp2_with fail
          refine (hpopU HM.out now).mono ?_
          rintro e w3 ⟨rfl, h3⟩
          rw [ev]
          unfold mkU
          have H3 := Lib.hid (h3.val eL (Nat.le_refl _))
          clear h3
          go_wp2_with fail
          refine (hlenU H3.out).mono ?_
          rintro e w9 ⟨rfl, rfl⟩
          rw [hlen]
          go_wp2_with fail
          go_loopw [13] (fun i wr => DRel3 W (W.heap.size + 1) k ts now i wr) (fun i _ => k - (intOf i).toNat)
          case atStart => exact ⟨0, _, Nat.zero_le _, rfl, H3.out, HT.out⟩
          case round =>
            obtain ⟨i3, M3, hi3, rfl, hm3, ht3⟩ := hrel
            have HM3 := Lib.hid hm3
            have HT3 := Lib.hid ht3
            clear hm3 ht3
            by_cases hlt3 : i3 < k
            · rcases HSL.out with h0 | ⟨b, off, rfl, hb, hc⟩
              · omega
              have hcv : IntKind.u16.wrap (i3 : Int) = (i3 : Int) := IntWalk.u16_in _ (by omega)
              have hr0 := sl_cell (hc i3 0 hlt3 (by decide)) hb HM3.out.below
              simp at hr0
              have hb' := hb
              have HC := Lib.hid (hc i3 0 hlt3 (by decide))
              have ev3 := tailed2_has HT3.out hlt3
              clear hc
              have e3 : (decide (now < ts i3) != decide (now < ts i3)) = false := by simp
              go_wp2_with fail
              go_region_held3 (fun w' => w'.cell? ⟨b, off + i3, none⟩ = some (.int .i64 (ts i3))) (first | (simp [go_sem, *]; done) | assumption) (first
                | (go_at_call 25; refine (hstopU (by exact HM3.out.drew) (i3 : Int) (keyU (wf_u16 (by omega)))).mono ?_; rintro e w4 ⟨rfl, h4⟩; rw [ev3]; have q0 := sl_cell HC.out hb' h4.below; simp at q0; have H4 := Lib.hid h4; clear h4))
              go_wp2
              go_roundw
              case rel => exact ⟨i3 + 1, _, by omega, by go_num, H4.out, tailed2_step HT3.out⟩
              case measure => simp only [intOf]; omega
            · have hM := tailed2_end HT3.out (by omega)
              subst hM
              go_wp2_with fail
              refine (hlenU HM3.out).mono ?_
              rintro e w9 ⟨rfl, rfl⟩
              go_wp2_with (go_at_call 10; refine (works_any _).mono ?_; rintro e w9 ⟨rfl, g9⟩)
              go_ret
              exact ⟨rfl, below_works HM3.out.below g9⟩
set_option maxHeartbeats 4000000 in
theorem timersDue.walk (W : World) (v : Value) (x : Nat × (Nat → Int)) (ho : Times W v x) (now : Int) (wn : (Lit.int .i64 now).wf = true) :
    Calls Try.prog 5 #[v, .int .i64 now] W fun e w' => e = .returned (.bool true) ∧ Below W.heap.size W w' := by
  by_cases hn : x.1 ≤ 200
  · exact due_good now v x W ho hn
  · obtain ⟨n, ts⟩ := x
    obtain ⟨⟨a, cap, rfl, hcap, hcap2, hsl⟩, hts⟩ := ho
    simp only at hn hcap
    clear hsl hts
    have h2 : 200 < n := by omega
    go_enter Try.func5, Try.ntmps5
    go_wp2_with (go_at_call 10; refine (works_any _).mono ?_; rintro e w9 ⟨rfl, g9⟩)
    go_ret
    exact ⟨rfl, g9⟩
end Go.Proofs.Ytebdnciehobfaaa
