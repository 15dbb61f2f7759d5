/- The walk of RingPlays. No condition. -/
import Derived.Test.YtplbgfjemcpcpaaRingBoth
import Derived.Test.YtplbgfjemcpcpaaRingWorks
import Derived.Deep.RegionHeld3
namespace Go.Proofs.Ytplbgfjemcpcpaa
open Go.RowKit Go.Conc Go.ChangeShapes Go.WideShapes Go.Deep
set_option linter.unusedVariables false
set_option linter.unusedSimpArgs false

theorem bothS.old {W w : World} {b q most : Nat} {Q P : List ByteArray} (h : bothS W w b q most Q P) {p : Addr} {u : Value} (hp : W.cell? p = some u) (hlt : p.block < W.heap.size) : w.cell? p = some u := (h.below.cell (p := p) hlt).trans hp
def PlRel (W : World) (b q most n : Nat) (i : Value) (wr : World) : Prop :=
  ∃ (j : Nat) (Q : List ByteArray), j ≤ n ∧ i = .int .i64 (j : Int) ∧ bothS W wr b q most Q Q
set_option maxRecDepth 100000 in
set_option maxHeartbeats 8000000 in
theorem ring_big (W : World) (room : Int) (v : Value) (x : Nat × (Nat → Int) × (Nat → ByteArray) × (Nat → Int)) (h : StepsS W v x) (hb : 300 < x.1 ∨ (x.1 ≤ 300 ∧ 2000 < room ∧ room ≤ 1048576)) :
    Calls Try.prog 7 #[.int .i64 room, v] W fun e w' => e = .returned (.bool true) ∧ Below W.heap.size W w' := by
  obtain ⟨n, ks, ss, is⟩ := x
  obtain ⟨⟨a, cap, rfl, h1, h2, hsl⟩, hbd⟩ := h
  simp only at hb h1 h2
  clear hsl hbd
  rcases hb with hb | ⟨hb, hb2, hb3⟩
  · have d : decide ((300 : Int) < (n : Int)) = true := decide_eq_true (by omega)
    go_enter Try.func7, Try.ntmps7
    go_wp2_with fail
    refine (works_any _).mono ?_
    rintro e w9 ⟨rfl, g9⟩
    go_wp2
    go_ret
    exact ⟨rfl, g9⟩
  · have d : decide ((300 : Int) < (n : Int)) = false := decide_eq_false (by omega)
    have d1 : decide ((2000 : Int) < room) = true := decide_eq_true hb2
    have d2 : decide (room ≤ 1048576) = true := decide_eq_true hb3
    go_enter Try.func7, Try.ntmps7
    go_wp2_with fail
    refine (works_any _).mono ?_
    rintro e w9 ⟨rfl, g9⟩
    go_wp2
    go_ret
    exact ⟨rfl, g9⟩
set_option maxRecDepth 100000 in
set_option maxHeartbeats 8000000 in
theorem ring_bad (W : World) (room : Int) (v : Value) (x : Nat × (Nat → Int) × (Nat → ByteArray) × (Nat → Int)) (h : StepsS W v x) (hn : x.1 ≤ 300) (hb : room < 1 ∨ 1048576 < room) :
    Calls Try.prog 7 #[.int .i64 room, v] W fun e w' => e = .returned (.bool true) ∧ Below W.heap.size W w' := by
  obtain ⟨n, ks, ss, is⟩ := x
  obtain ⟨⟨a, cap, rfl, h1, h2, hsl⟩, hbd⟩ := h
  simp only at hn h1 h2
  clear hsl hbd
  have d : decide ((300 : Int) < (n : Int)) = false := decide_eq_false (by omega)
  have HB := Lib.hid hb
  have dd : (decide ((2000 : Int) < room) && decide (room ≤ 1048576)) = false := by
    rcases hb with h | h
    · rw [decide_eq_false (show ¬ (2000 : Int) < room by omega)]; rfl
    · rw [decide_eq_false (show ¬ room ≤ 1048576 by omega), Bool.and_false]
  have n1 := fun w => rnewS_bad room hb w
  have n2 := fun w => qnew_bad room hb w
  have N1 := Lib.hid n1
  have N2 := Lib.hid n2
  clear n1 n2
  rcases hb with h | h
  · have d1 : decide ((2000 : Int) < room) = false := decide_eq_false (by omega)
    clear dd
    go_enter Try.func7, Try.ntmps7
    go_wp2_with fail
    refine (N1.out _).mono ?_
    rintro e w1 ⟨rfl, rfl⟩
    go_wp2_with fail
    refine (N2.out _).mono ?_
    rintro e w2 ⟨rfl, rfl⟩
    go_wp2_with fail
    refine wp_loop_rounds 1 ?_
    rw [rounds_succ]
    go_wp2_with fail
    all_goals (refine (works_any _).mono ?_; rintro e w9 ⟨rfl, g9⟩; go_wp2; go_ret; exact ⟨rfl, g9⟩)
  · have d1 : decide ((2000 : Int) < room) = true := decide_eq_true (by omega)
    have d2 : decide (room ≤ 1048576) = false := decide_eq_false (by omega)
    clear dd
    go_enter Try.func7, Try.ntmps7
    go_wp2_with fail
    refine (N1.out _).mono ?_
    rintro e w1 ⟨rfl, rfl⟩
    go_wp2_with fail
    refine (N2.out _).mono ?_
    rintro e w2 ⟨rfl, rfl⟩
    go_wp2_with fail
    refine wp_loop_rounds 1 ?_
    rw [rounds_succ]
    go_wp2_with fail
    all_goals (refine (works_any _).mono ?_; rintro e w9 ⟨rfl, g9⟩; go_wp2; go_ret; exact ⟨rfl, g9⟩)
set_option maxRecDepth 100000 in
set_option maxHeartbeats 16000000 in
theorem ring_good (W : World) (room : Int) (v : Value) (x : Nat × (Nat → Int) × (Nat → ByteArray) × (Nat → Int)) (h : StepsS W v x) (hn : x.1 ≤ 300) (hr : 1 ≤ room ∧ room ≤ 2000) :
    Calls Try.prog 7 #[.int .i64 room, v] W fun e w' => e = .returned (.bool true) ∧ Below W.heap.size W w' := by
  obtain ⟨n, ks, ss, is⟩ := x
  obtain ⟨⟨a, cap, rfl, h1, h2, hsl⟩, hbd⟩ := h
  simp only at hn h1 h2
  obtain ⟨hr1, hr2⟩ := hr
  have d : decide ((300 : Int) < (n : Int)) = false := decide_eq_false (by omega)
  have d1 : decide ((2000 : Int) < room) = false := decide_eq_false (by omega)
  have HSL := Lib.hid hsl
  have HBD := Lib.hid hbd
  have N1 := Lib.hid (fun w hB => hnewS W w hB room (by omega))
  have N2 := Lib.hid (fun w => qnew room (by omega) w)
  obtain ⟨most, hmost⟩ : ∃ most, room.toNat = most := ⟨_, rfl⟩
  rw [hmost] at N1 N2
  clear hsl hbd hmost
  go_enter Try.func7, Try.ntmps7
  go_wp2_with fail
  refine (N1.out _ (Below.refl _ _)).mono ?_
  rintro e w1 ⟨rfl, hh1, hlt1⟩
  have HH1 := Lib.hid hh1
  clear hh1
  generalize W.heap.size + 1 = b at *
  go_wp2_with fail
  refine (N2.out _).mono ?_
  rintro e w2 ⟨rfl, q2, t2⟩
  have HB := Lib.hid (bothS.made HH1.out q2 rfl t2)
  generalize w1.heap.size = q at *
  clear q2 t2 HH1 N1 N2
  go_wp2_with fail
  go_loopw [9] (fun i wr => PlRel W b q most n i wr) (fun i _ => n - (intOf i).toNat)
  case atStart => exact ⟨0, [], Nat.zero_le _, rfl, HB.out⟩
  case round =>
    clear HB
    obtain ⟨j, Q, hj, rfl, hb⟩ := hrel
    have HB := Lib.hid hb
    clear hb
    by_cases hlt : j < n
    · have hcells : ∃ b0 off, a = some ⟨b0, off, none⟩ ∧ b0 < W.heap.size ∧ W.cell? ⟨b0, off + j * 3, none⟩ = some (.int .i64 (ks j)) ∧ W.cell? ⟨b0, off + j * 3 + 1, none⟩ = some (.string (ss j)) ∧ W.cell? ⟨b0, off + j * 3 + 2, none⟩ = some (.int .i64 (is j)) := by
        rcases HSL.out with h | ⟨b0, off, e, hb0, hc⟩
        · omega
        · exact ⟨b0, off, e, hb0, hc j 0 hlt (by omega), hc j 1 hlt (by omega), hc j 2 hlt (by omega)⟩
      obtain ⟨b0, off, rfl, hb0, hk0, hk1, hk2⟩ := hcells
      have hib := HBD.out j hlt
      obtain ⟨k, hk⟩ : ∃ k, ks j = k := ⟨_, rfl⟩
      obtain ⟨s, hs⟩ : ∃ s, ss j = s := ⟨_, rfl⟩
      obtain ⟨t, ht⟩ : ∃ t, is j = t := ⟨_, rfl⟩
      rw [hk] at hk0; rw [hs] at hk1; rw [ht] at hk2 hib
      clear hk hs ht
      have K1 := Lib.hid hk1
      have K2 := Lib.hid hk2
      have c0 := HB.out.old hk0 hb0
      have c1 := HB.out.old hk1 hb0
      have c2 := HB.out.old hk2 hb0
      clear hk0 hk1 hk2
      have hqb := HB.out.bound
      rcases (show k = 0 ∨ k = 1 ∨ k = 2 ∨ k = 3 ∨ (k ≠ 0 ∧ k ≠ 1 ∧ k ≠ 2 ∧ k ≠ 3) by omega) with rfl | rfl | rfl | rfl | ⟨e0, e1, e2, e3⟩
      · by_cases hroom : Q.length < most
        · have P1 := Lib.hid (fun w (h : bothS W w b q most Q Q) => bpush h s hroom)
          have P2 := Lib.hid (fun w (h : bothS W w b q most (Q ++ [s]) Q) => rpush h s hroom)
          clear c2
          go_wp2_with fail
          go_region_held3 (fun w' => w'.cell? ⟨b0, off + j * 3 + 1, none⟩ = some (.string s)) (first | (simp [go_sem, *]; done) | assumption) (first
            | (go_at_call 25; ((refine (P1.out _ (HB.out.stay (turned_drew _ []))).mono ?_)); rintro e w3 ⟨rfl, h3⟩; have H3 := Lib.hid h3; clear h3 c1; have c1 := H3.out.old K1.out hb0)
            | (go_at_call 26; ((refine (P2.out _ H3.out).mono ?_)); rintro e w4 ⟨rfl, h4⟩; have H4 := Lib.hid h4; clear h4 c1; have c1 := H4.out.old K1.out hb0))
          clear c0 c1
          go_wp2_with fail
          obtain ⟨qa, qc, hq1, hq2, ho⟩ := H4.out.refObj
          have m0 := ho.cell 0 rfl
          have m1 := ho.cell 1 rfl
          have hqb := H4.out.bound
          have s0 : IntKind.i64.wrap ((most : Int) - ((Q ++ [s]).length : Int)) = (most : Int) - ((Q ++ [s]).length : Int) := IntWalk.i64_in _ (by omega)
          obtain ⟨qn, hqn⟩ : ∃ qn, (Q ++ [s]).length = qn := ⟨_, rfl⟩
          rw [hqn] at m1 s0 hqb hq1
          have BL := Lib.hid (fun w => blen (W := W) (w := w) (b := b) (q := q) (most := most) (Q := Q ++ [s]) (P := Q ++ [s]))
          have BR := Lib.hid (fun w => broom (W := W) (w := w) (b := b) (q := q) (most := most) (Q := Q ++ [s]) (P := Q ++ [s]))
          rw [hqn] at BL BR
          clear ho hqn
          go_quiet ((first | (go_at_call 32; exact Calls.quiet_of_same (BL.out _ (H4.out.stay (turned_drewN _ _ [])))) | (go_at_call 33; exact Calls.quiet_of (BR.out _ (H4.out.stay (turned_drewN _ _ []))))))
          clear m0 m1 s0
          go_wp2_with fail
          go_roundw
          case rel => exact ⟨j + 1, Q ++ [s], by omega, by go_num, H4.out.stay (turned_drewN _ _ [])⟩
          case measure => simp only [intOf]; omega
        · have P1 := Lib.hid (fun w (h : bothS W w b q most Q Q) => bfull h s hroom)
          have P2 := Lib.hid (fun w (h : bothS W w b q most Q Q) => rfull h s hroom)
          clear c2
          go_wp2_with fail
          go_region_held3 (fun w' => w'.cell? ⟨b0, off + j * 3 + 1, none⟩ = some (.string s)) (first | (simp [go_sem, *]; done) | assumption) (first
            | (go_at_call 25; ((refine (P1.out _ (HB.out.stay (turned_drew _ []))).mono ?_)); rintro e w3 ⟨rfl, h3⟩; have H3 := Lib.hid h3; clear h3 c1; have c1 := H3.out.old K1.out hb0)
            | (go_at_call 26; ((refine (P2.out _ H3.out).mono ?_)); rintro e w4 ⟨rfl, h4⟩; have H4 := Lib.hid h4; clear h4 c1; have c1 := H4.out.old K1.out hb0))
          clear c0 c1
          go_wp2_with fail
          obtain ⟨qa, qc, hq1, hq2, ho⟩ := H4.out.refObj
          have m0 := ho.cell 0 rfl
          have m1 := ho.cell 1 rfl
          have hqb := H4.out.bound
          have s0 : IntKind.i64.wrap ((most : Int) - ((Q).length : Int)) = (most : Int) - ((Q).length : Int) := IntWalk.i64_in _ (by omega)
          obtain ⟨qn, hqn⟩ : ∃ qn, (Q).length = qn := ⟨_, rfl⟩
          rw [hqn] at m1 s0 hqb hq1
          have BL := Lib.hid (fun w => blen (W := W) (w := w) (b := b) (q := q) (most := most) (Q := Q) (P := Q))
          have BR := Lib.hid (fun w => broom (W := W) (w := w) (b := b) (q := q) (most := most) (Q := Q) (P := Q))
          rw [hqn] at BL BR
          clear ho hqn
          go_quiet ((first | (go_at_call 32; exact Calls.quiet_of_same (BL.out _ (H4.out.stay (turned_drewN _ _ [])))) | (go_at_call 33; exact Calls.quiet_of (BR.out _ (H4.out.stay (turned_drewN _ _ []))))))
          clear m0 m1 s0
          go_wp2_with fail
          go_roundw
          case rel => exact ⟨j + 1, Q, by omega, by go_num, H4.out.stay (turned_drewN _ _ [])⟩
          case measure => simp only [intOf]; omega
      · cases Q with
        | nil =>
          clear c1 c2
          go_wp2_with fail
          refine (bempty HB.out).mono ?_
          rintro e w3 ⟨rfl, h3⟩
          have H3 := Lib.hid h3
          clear h3
          go_wp2_with fail
          refine (rempty H3.out).mono ?_
          rintro e w4 ⟨rfl, h4⟩
          have H4 := Lib.hid h4
          clear h4
          go_wp2_with fail
          obtain ⟨qa, qc, hq1, hq2, ho⟩ := H4.out.refObj
          have m0 := ho.cell 0 rfl
          have m1 := ho.cell 1 rfl
          have hqb := H4.out.bound
          have s0 : IntKind.i64.wrap ((most : Int) - ((([] : List ByteArray)).length : Int)) = (most : Int) - ((([] : List ByteArray)).length : Int) := IntWalk.i64_in _ (by omega)
          obtain ⟨qn, hqn⟩ : ∃ qn, (([] : List ByteArray)).length = qn := ⟨_, rfl⟩
          rw [hqn] at m1 s0 hqb hq1
          have BL := Lib.hid (fun w => blen (W := W) (w := w) (b := b) (q := q) (most := most) (Q := ([] : List ByteArray)) (P := ([] : List ByteArray)))
          have BR := Lib.hid (fun w => broom (W := W) (w := w) (b := b) (q := q) (most := most) (Q := ([] : List ByteArray)) (P := ([] : List ByteArray)))
          rw [hqn] at BL BR
          clear ho hqn
          go_quiet ((first | (go_at_call 32; exact Calls.quiet_of_same (BL.out _ (H4.out.stay (turned_drewN _ _ [])))) | (go_at_call 33; exact Calls.quiet_of (BR.out _ (H4.out.stay (turned_drewN _ _ []))))))
          clear m0 m1 s0
          go_wp2_with fail
          go_roundw
          case rel => exact ⟨j + 1, ([] : List ByteArray), by omega, by go_num, H4.out.stay (turned_drewN _ _ [])⟩
          case measure => simp only [intOf]; omega
        | cons y Q =>
          clear c1 c2
          go_wp2_with fail
          refine (bpop HB.out).mono ?_
          rintro e w3 ⟨rfl, h3⟩
          have H3 := Lib.hid h3
          clear h3
          go_wp2_with fail
          refine (rpop H3.out).mono ?_
          rintro e w4 ⟨rfl, h4⟩
          have H4 := Lib.hid h4
          clear h4
          go_wp2_with fail
          obtain ⟨qa, qc, hq1, hq2, ho⟩ := H4.out.refObj
          have m0 := ho.cell 0 rfl
          have m1 := ho.cell 1 rfl
          have hqb := H4.out.bound
          have s0 : IntKind.i64.wrap ((most : Int) - ((Q).length : Int)) = (most : Int) - ((Q).length : Int) := IntWalk.i64_in _ (by omega)
          obtain ⟨qn, hqn⟩ : ∃ qn, (Q).length = qn := ⟨_, rfl⟩
          rw [hqn] at m1 s0 hqb hq1
          have BL := Lib.hid (fun w => blen (W := W) (w := w) (b := b) (q := q) (most := most) (Q := Q) (P := Q))
          have BR := Lib.hid (fun w => broom (W := W) (w := w) (b := b) (q := q) (most := most) (Q := Q) (P := Q))
          rw [hqn] at BL BR
          clear ho hqn
          go_quiet ((first | (go_at_call 32; exact Calls.quiet_of_same (BL.out _ (H4.out.stay (turned_drewN _ _ [])))) | (go_at_call 33; exact Calls.quiet_of (BR.out _ (H4.out.stay (turned_drewN _ _ []))))))
          clear m0 m1 s0
          go_wp2_with fail
          go_roundw
          case rel => exact ⟨j + 1, Q, by omega, by go_num, H4.out.stay (turned_drewN _ _ [])⟩
          case measure => simp only [intOf]; omega
      · by_cases hin : 0 ≤ t ∧ t < (Q.length : Int)
        · obtain ⟨m, rfl⟩ : ∃ m : Nat, t = (m : Int) := ⟨t.toNat, by omega⟩
          have hml : m < Q.length := by omega
          have P1 := Lib.hid (fun w (h : bothS W w b q most Q Q) => bat h m (Q[m]'hml) (List.getElem?_eq_getElem hml))
          have P2 := Lib.hid (fun w (h : bothS W w b q most Q Q) => rat h m (Q[m]'hml) (List.getElem?_eq_getElem hml))
          generalize Q[m] = y at P1 P2
          clear c1
          go_wp2_with fail
          refine (P1.out _ HB.out).mono ?_
          rintro e w3 ⟨rfl, h3⟩
          have H3 := Lib.hid h3
          clear h3 c0 c2
          have c2 := H3.out.old K2.out hb0
          go_wp2_with fail
          refine (P2.out _ H3.out).mono ?_
          rintro e w4 ⟨rfl, h4⟩
          have H4 := Lib.hid h4
          clear h4 c2
          go_wp2_with fail
          obtain ⟨qa, qc, hq1, hq2, ho⟩ := H4.out.refObj
          have m0 := ho.cell 0 rfl
          have m1 := ho.cell 1 rfl
          have hqb := H4.out.bound
          have s0 : IntKind.i64.wrap ((most : Int) - ((Q).length : Int)) = (most : Int) - ((Q).length : Int) := IntWalk.i64_in _ (by omega)
          obtain ⟨qn, hqn⟩ : ∃ qn, (Q).length = qn := ⟨_, rfl⟩
          rw [hqn] at m1 s0 hqb hq1
          have BL := Lib.hid (fun w => blen (W := W) (w := w) (b := b) (q := q) (most := most) (Q := Q) (P := Q))
          have BR := Lib.hid (fun w => broom (W := W) (w := w) (b := b) (q := q) (most := most) (Q := Q) (P := Q))
          rw [hqn] at BL BR
          clear ho hqn
          go_quiet ((first | (go_at_call 32; exact Calls.quiet_of_same (BL.out _ (H4.out.stay (turned_drewN _ _ [])))) | (go_at_call 33; exact Calls.quiet_of (BR.out _ (H4.out.stay (turned_drewN _ _ []))))))
          clear m0 m1 s0
          go_wp2_with fail
          go_roundw
          case rel => exact ⟨j + 1, Q, by omega, by go_num, H4.out.stay (turned_drewN _ _ [])⟩
          case measure => simp only [intOf]; omega
        · have P1 := Lib.hid (fun w (h : bothS W w b q most Q Q) => batno h t (by omega))
          have P2 := Lib.hid (fun w (h : bothS W w b q most Q Q) => ratno h t (by omega))
          clear c1 hin
          go_wp2_with fail
          refine (P1.out _ HB.out).mono ?_
          rintro e w3 ⟨rfl, h3⟩
          have H3 := Lib.hid h3
          clear h3 c0 c2
          have c2 := H3.out.old K2.out hb0
          go_wp2_with fail
          refine (P2.out _ H3.out).mono ?_
          rintro e w4 ⟨rfl, h4⟩
          have H4 := Lib.hid h4
          clear h4 c2
          go_wp2_with fail
          obtain ⟨qa, qc, hq1, hq2, ho⟩ := H4.out.refObj
          have m0 := ho.cell 0 rfl
          have m1 := ho.cell 1 rfl
          have hqb := H4.out.bound
          have s0 : IntKind.i64.wrap ((most : Int) - ((Q).length : Int)) = (most : Int) - ((Q).length : Int) := IntWalk.i64_in _ (by omega)
          obtain ⟨qn, hqn⟩ : ∃ qn, (Q).length = qn := ⟨_, rfl⟩
          rw [hqn] at m1 s0 hqb hq1
          have BL := Lib.hid (fun w => blen (W := W) (w := w) (b := b) (q := q) (most := most) (Q := Q) (P := Q))
          have BR := Lib.hid (fun w => broom (W := W) (w := w) (b := b) (q := q) (most := most) (Q := Q) (P := Q))
          rw [hqn] at BL BR
          clear ho hqn
          go_quiet ((first | (go_at_call 32; exact Calls.quiet_of_same (BL.out _ (H4.out.stay (turned_drewN _ _ [])))) | (go_at_call 33; exact Calls.quiet_of (BR.out _ (H4.out.stay (turned_drewN _ _ []))))))
          clear m0 m1 s0
          go_wp2_with fail
          go_roundw
          case rel => exact ⟨j + 1, Q, by omega, by go_num, H4.out.stay (turned_drewN _ _ [])⟩
          case measure => simp only [intOf]; omega
      · clear c1 c2
        go_wp2_with fail
        refine (bclear HB.out).mono ?_
        rintro e w3 ⟨rfl, h3⟩
        have H3 := Lib.hid h3
        clear h3
        obtain ⟨qa, qc, hq1, hq2, ho⟩ := H3.out.refObj
        have m1 := ho.cell 1 rfl
        have f1 := ho.free 1
        have H4 := Lib.hid H3.out.clearR
        clear ho
        go_wp2_with fail
        clear m1 f1 hq1 hq2
        obtain ⟨qa, qc, hq1, hq2, ho⟩ := H4.out.refObj
        have m0 := ho.cell 0 rfl
        have m1 := ho.cell 1 rfl
        have hqb := H4.out.bound
        have s0 : IntKind.i64.wrap ((most : Int) - ((([] : List ByteArray)).length : Int)) = (most : Int) - ((([] : List ByteArray)).length : Int) := IntWalk.i64_in _ (by omega)
        obtain ⟨qn, hqn⟩ : ∃ qn, (([] : List ByteArray)).length = qn := ⟨_, rfl⟩
        rw [hqn] at m1 s0 hqb hq1
        have BL := Lib.hid (fun w => blen (W := W) (w := w) (b := b) (q := q) (most := most) (Q := ([] : List ByteArray)) (P := ([] : List ByteArray)))
        have BR := Lib.hid (fun w => broom (W := W) (w := w) (b := b) (q := q) (most := most) (Q := ([] : List ByteArray)) (P := ([] : List ByteArray)))
        rw [hqn] at BL BR
        clear ho hqn
        go_quiet ((first | (go_at_call 32; exact Calls.quiet_of_same (BL.out _ (H4.out.stay (turned_drewN _ _ [])))) | (go_at_call 33; exact Calls.quiet_of (BR.out _ (H4.out.stay (turned_drewN _ _ []))))))
        clear m0 m1 s0
        go_wp2_with fail
        go_roundw
        case rel => exact ⟨j + 1, ([] : List ByteArray), by omega, by go_num, H4.out.stay (turned_drewN _ _ [])⟩
        case measure => simp only [intOf]; omega
      · have e0' : (k == 0) = false := beq_eq_false_iff_ne.2 e0
        have e1' : (k == 1) = false := beq_eq_false_iff_ne.2 e1
        have e2' : (k == 2) = false := beq_eq_false_iff_ne.2 e2
        have e3' : (k == 3) = false := beq_eq_false_iff_ne.2 e3
        clear c1 c2 e0 e1 e2 e3
        go_wp2_with fail
        obtain ⟨qa, qc, hq1, hq2, ho⟩ := HB.out.refObj
        have m0 := ho.cell 0 rfl
        have m1 := ho.cell 1 rfl
        have hqb := HB.out.bound
        have s0 : IntKind.i64.wrap ((most : Int) - ((Q).length : Int)) = (most : Int) - ((Q).length : Int) := IntWalk.i64_in _ (by omega)
        obtain ⟨qn, hqn⟩ : ∃ qn, (Q).length = qn := ⟨_, rfl⟩
        rw [hqn] at m1 s0 hqb hq1
        have BL := Lib.hid (fun w => blen (W := W) (w := w) (b := b) (q := q) (most := most) (Q := Q) (P := Q))
        have BR := Lib.hid (fun w => broom (W := W) (w := w) (b := b) (q := q) (most := most) (Q := Q) (P := Q))
        rw [hqn] at BL BR
        clear ho hqn
        go_quiet ((first | (go_at_call 32; exact Calls.quiet_of_same (BL.out _ (HB.out.stay (turned_drewN _ _ [])))) | (go_at_call 33; exact Calls.quiet_of (BR.out _ (HB.out.stay (turned_drewN _ _ []))))))
        clear m0 m1 s0
        go_wp2_with fail
        go_roundw
        case rel => exact ⟨j + 1, Q, by omega, by go_num, HB.out.stay (turned_drewN _ _ [])⟩
        case measure => simp only [intOf]; omega
    · go_wp2_with fail
      refine (works_any _).mono ?_
      rintro e w9 ⟨rfl, g9⟩
      go_wp2
      go_ret
      exact ⟨rfl, below_works HB.out.below g9⟩
theorem ringPlays.walk (W : World) (room : Int) (wr : (Lit.int .i64 room).wf = true) (v : Value) (x : Nat × (Nat → Int) × (Nat → ByteArray) × (Nat → Int)) (h : StepsS W v x) :
    Calls Try.prog 7 #[.int .i64 room, v] W fun e w' => e = .returned (.bool true) ∧ Below W.heap.size W w' := by
  by_cases h1 : 300 < x.1
  · exact ring_big W room v x h (.inl h1)
  by_cases h2 : 2000 < room ∧ room ≤ 1048576
  · exact ring_big W room v x h (.inr ⟨by omega, h2⟩)
  by_cases h3 : room < 1 ∨ 1048576 < room
  · exact ring_bad W room v x h (by omega) h3
  · exact ring_good W room v x h (by omega) (by omega)
end Go.Proofs.Ytplbgfjemcpcpaa
