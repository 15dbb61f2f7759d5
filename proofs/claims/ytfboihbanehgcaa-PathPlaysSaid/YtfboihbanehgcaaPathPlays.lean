/- The walk of PathPlays. No condition. -/
import Derived.Test.YtfboihbanehgcaaPathWorks
namespace Go.Proofs.Ytfboihbanehgcaa
open Go.RowKit Go.ChangeShapes Go.WideShapes Go.Deep
set_option linter.unusedVariables false
set_option linter.unusedSimpArgs false

def OpenedCF (v : Value) (c : CF) : Prop := v = .agg c.cells ∧ -9223372036854775808 ≤ c.mtu ∧ c.mtu ≤ 9223372036854775807
theorem opened29 {H : Type} {enc : TypeId × Value → H} {W : World} {r : Reach} {base : Nat} {v : Value} {d : DataW H} {p : List MemPlace}
    (hv : Value.okWide Try.prog W r base 29 v) (h : DataW.Trod enc Try.prog W 0 (fun _ => true) true 29 v d p) : ∃ c, OpenedCF v c := by
  obtain ⟨l, rfl, hl, hx⟩ := openAgg 14 Try.underlying29 (by kernel_rfl) (by kernel_rfl) rfl hv h
  match l, hl with
  | [v0, v1, v2, v3, v4, v5, v6, v7, v8, v9, v10, v11, v12, v13], _ =>
    obtain ⟨m0, y0, h0⟩ := hx 0 _ rfl
    obtain ⟨a0, e0, wf0⟩ := trod_int1 Try.underlying3 h0
    obtain ⟨m1, y1, h1⟩ := hx 1 _ rfl
    obtain ⟨a1, e1, wf1⟩ := trod_int1 Try.underlying3 h1
    obtain ⟨m2, y2, h2⟩ := hx 2 _ rfl
    obtain ⟨a2, e2, wf2⟩ := trod_int1 Try.underlying3 h2
    obtain ⟨m3, y3, h3⟩ := hx 3 _ rfl
    obtain ⟨a3, e3, wf3⟩ := trod_int1 Try.underlying3 h3
    obtain ⟨m4, y4, h4⟩ := hx 4 _ rfl
    obtain ⟨a4, e4, wf4⟩ := trod_int1 Try.underlying3 h4
    obtain ⟨m5, y5, h5⟩ := hx 5 _ rfl
    obtain ⟨a5, e5, wf5⟩ := trod_int1 Try.underlying3 h5
    obtain ⟨m6, y6, h6⟩ := hx 6 _ rfl
    obtain ⟨a6, e6, wf6⟩ := trod_int1 Try.underlying2 h6
    obtain ⟨m7, y7, h7⟩ := hx 7 _ rfl
    obtain ⟨a7, e7, wf7⟩ := trod_int1 Try.underlying2 h7
    obtain ⟨m8, y8, h8⟩ := hx 8 _ rfl
    obtain ⟨a8, e8, wf8⟩ := trod_int1 Try.underlying2 h8
    obtain ⟨m9, y9, h9⟩ := hx 9 _ rfl
    obtain ⟨a9, e9, wf9⟩ := trod_int1 Try.underlying2 h9
    obtain ⟨m10, y10, h10⟩ := hx 10 _ rfl
    obtain ⟨a10, e10, wf10⟩ := trod_int1 Try.underlying2 h10
    obtain ⟨m11, y11, h11⟩ := hx 11 _ rfl
    obtain ⟨a11, e11, wf11⟩ := trod_int1 Try.underlying2 h11
    obtain ⟨m12, y12, h12⟩ := hx 12 _ rfl
    obtain ⟨a12, e12, wf12⟩ := trod_int1 Try.underlying3 h12
    obtain ⟨m13, y13, h13⟩ := hx 13 _ rfl
    obtain ⟨a13, e13, wf13⟩ := trod_int1 Try.underlying3 h13
    simp only [List.getD, List.getElem?_cons_zero, List.getElem?_cons_succ, Option.getD_some] at e0 e1 e2 e3 e4 e5 e6 e7 e8 e9 e10 e11 e12 e13
    subst e0 e1 e2 e3 e4 e5 e6 e7 e8 e9 e10 e11 e12 e13
    exact ⟨⟨a0, a1, a2, a3, a4, a5, a6, a7, a8, a9, a10, a11, a12, a13⟩, rfl, bounds_i64 wf1⟩

def PRel (W : World) (p r : PP) (n : Nat) (i : Value) (wr : World) : Prop :=
  ∃ (k : Nat) (st : PS), k ≤ n ∧ i = .int .i64 (k : Int) ∧ st.ok (k * 16777216) ∧ isPath wr p st ∧ isRef wr r st ∧ Below W.heap.size W wr

set_option maxRecDepth 100000 in
set_option maxHeartbeats 8000000 in
theorem plays_good (c : CF) (now : Int) (hf : c.fits now) (v : Value) (x : Nat × (Nat → OP)) (W : World) (ho : Ops W v x) (hn : x.1 ≤ 300) :
    Calls Try.prog 7 #[.agg c.cells, .int .i64 now, v] W fun e w' => e = .returned (.bool true) ∧ Below W.heap.size W w' := by
  obtain ⟨n, ops⟩ := x
  obtain ⟨⟨a, cap, rfl, hcap, hcap2, hsl⟩, hts⟩ := ho
  simp only at hn hts hsl hcap
  have HSL := Lib.hid hsl
  have HTS := Lib.hid hts
  have HF := Lib.hid hf
  have HI := Lib.hid (pok_init hf)
  clear hsl hts hf
  obtain ⟨c0, c1, c2, c3, c4, c5, c6, c7, c8, c9, c10, c11, c12, c13⟩ := c
  unfold CF.cells
  have hb0 := obj.new W 29 [.int .i64 c0, .int .i64 c1, .int .i64 c2, .int .i64 c3, .int .i64 c4, .int .i64 c5, .int .i64 c6, .int .i64 c7, .int .i64 c8, .int .i64 c9, .int .i64 c10, .int .i64 c11, .int .i64 c12, .int .i64 c13]
  have HC := Lib.hid (show obj (W.alloc (.cells #[.int .i64 c0, .int .i64 c1, .int .i64 c2, .int .i64 c3, .int .i64 c4, .int .i64 c5, .int .i64 c6, .int .i64 c7, .int .i64 c8, .int .i64 c9, .int .i64 c10, .int .i64 c11, .int .i64 c12, .int .i64 c13] 29)) W.heap.size 29 [.int .i64 c0, .int .i64 c1, .int .i64 c2, .int .i64 c3, .int .i64 c4, .int .i64 c5, .int .i64 c6, .int .i64 c7, .int .i64 c8, .int .i64 c9, .int .i64 c10, .int .i64 c11, .int .i64 c12, .int .i64 c13] from hb0)
  have HB0 := Lib.hid ((Below.refl W.heap.size W).alloc (Nat.le_refl _) (.cells #[.int .i64 c0, .int .i64 c1, .int .i64 c2, .int .i64 c3, .int .i64 c4, .int .i64 c5, .int .i64 c6, .int .i64 c7, .int .i64 c8, .int .i64 c9, .int .i64 c10, .int .i64 c11, .int .i64 c12, .int .i64 c13] 29))
  clear hb0
  go_enter Try.func7, Try.ntmps7
  go_wp2_with fail
  refine (pnew_any _ now HF.out _).mono ?_
  rintro e w1 ⟨p, rfl, o1, i1, g1⟩
  have B1 := Lib.hid (HC.out.kept g1 (by simp))
  have O1 := Lib.hid o1
  have I1 := Lib.hid i1
  have G1 := Lib.hid g1
  have m0 := B1.out.cell 0 rfl
  have m1 := B1.out.cell 1 rfl
  have m2 := B1.out.cell 2 rfl
  have m3 := B1.out.cell 3 rfl
  have m4 := B1.out.cell 4 rfl
  have m5 := B1.out.cell 5 rfl
  have m6 := B1.out.cell 6 rfl
  have m7 := B1.out.cell 7 rfl
  have m8 := B1.out.cell 8 rfl
  have m9 := B1.out.cell 9 rfl
  have m10 := B1.out.cell 10 rfl
  have m11 := B1.out.cell 11 rfl
  have m12 := B1.out.cell 12 rfl
  have m13 := B1.out.cell 13 rfl
  clear o1 i1 g1
  go_wp2_with fail
  refine (pnew_ref _ now HF.out _).mono ?_
  rintro e w2 ⟨r, rfl, o2, i2, g2⟩
  have O2 := Lib.hid o2
  have I2 := Lib.hid i2
  have G2 := Lib.hid g2
  have O1' := Lib.hid (O1.out.stay (turned_none g2))
  have HB2 := Lib.hid (below_none (below_none HB0.out G1.out) g2)
  clear o2 i2 g2 m0 m1 m2 m3 m4 m5 m6 m7 m8 m9 m10 m11 m12 m13
  go_wp2_with fail
  refine (alike_any _ p r _ O1'.out O2.out).mono ?_
  rintro e w3 ⟨rfl, t3⟩
  have O3 := Lib.hid (O1'.out.stay t3)
  have Q3 := Lib.hid (O2.out.stay t3)
  have HB3 := Lib.hid (below_turned HB2.out t3 (by simp))
  clear t3
  have hlo : W.heap.size ≤ (W.alloc (.cells #[.int .i64 c0, .int .i64 c1, .int .i64 c2, .int .i64 c3, .int .i64 c4, .int .i64 c5, .int .i64 c6, .int .i64 c7, .int .i64 c8, .int .i64 c9, .int .i64 c10, .int .i64 c11, .int .i64 c12, .int .i64 c13] 29)).heap.size := by simp
  go_wp2_with fail
  go_loopw [11] (fun i wr => PRel W p r n i wr) (fun i _ => n - (intOf i).toNat)
  case atStart => exact ⟨0, _, Nat.zero_le _, rfl, HI.out, O3.out, Q3.out, HB3.out⟩
  case round =>
    obtain ⟨k, st, hk, rfl, hok, h1, h2, hbel⟩ := hrel
    have HOK := Lib.hid hok
    have H1 := Lib.hid h1
    have H2 := Lib.hid h2
    have HB := Lib.hid hbel
    clear hok h1 h2 hbel
    by_cases hlt : k < n
    · rcases HSL.out with h0 | ⟨b, off, rfl, hb, hc⟩
      · omega
      have hr0 := sl_cell (hc k 0 hlt (by decide)) hb HB.out
      have hr1 := sl_cell (hc k 1 hlt (by decide)) hb HB.out
      have hr2 := sl_cell (hc k 2 hlt (by decide)) hb HB.out
      have hr3 := sl_cell (hc k 3 hlt (by decide)) hb HB.out
      have hr4 := sl_cell (hc k 4 hlt (by decide)) hb HB.out
      simp at hr0 hr1 hr2 hr3 hr4
      have hok := HTS.out k hlt
      have OKO := Lib.hid hok
      have OK2 := Lib.hid (pok_more (q := ((k + 1 : Nat) : Int) * 16777216) (pok_step HOK.out (by omega) (ops k)) (by omega))
      have n1 : b ∉ p.L := by have := I1.out; unfold PP.within at this; simp [PP.L]; omega
      have n2 : b ∉ r.L := by have := I2.out; have := G1.out.size; unfold PP.within at *; simp [PP.L]; omega
      have b1 : (st.stepB (ops k) != st.stepB (ops k)) = false := by simp
      clear hc hok
      go_wp2_with fail
      go_region_held3 (fun w' => w'.cell? ⟨b, off + k * 5, none⟩ = some (.int .i64 (ops k).k) ∧ w'.cell? ⟨b, off + k * 5 + 1, none⟩ = some (.int .i64 (ops k).n) ∧ w'.cell? ⟨b, off + k * 5 + 2, none⟩ = some (.bool (ops k).full) ∧ w'.cell? ⟨b, off + k * 5 + 3, none⟩ = some (.int .i64 (ops k).t) ∧ w'.cell? ⟨b, off + k * 5 + 4, none⟩ = some (.int .i64 (ops k).u)) (first | (simp [go_sem, *]; done) | assumption) (first
        | (go_at_call 14; refine (does_any st HOK.out (by omega) (by omega) (ops k) OKO.out p _ (by exact H1.out.drew)).mono ?_; rintro e w4 ⟨rfl, o4, t4⟩; have q0 := turned_cell t4 (by exact hr0) n1; have q1 := turned_cell t4 (by exact hr1) n1; have q2 := turned_cell t4 (by exact hr2) n1; have q3 := turned_cell t4 (by exact hr3) n1; have q4 := turned_cell t4 (by exact hr4) n1; have O4 := Lib.hid o4; have T4 := Lib.hid t4; clear o4 t4)
        | (go_at_call 23; refine (does_ref st HOK.out (by omega) (by omega) (ops k) OKO.out r _ (by exact H2.out.drew.past T4.out I1.out I2.out)).mono ?_; rintro e w5 ⟨rfl, o5, t5⟩; have z0 := turned_cell t5 (by exact q0) n2; have z1 := turned_cell t5 (by exact q1) n2; have z2 := turned_cell t5 (by exact q2) n2; have z3 := turned_cell t5 (by exact q3) n2; have z4 := turned_cell t5 (by exact q4) n2; have O5 := Lib.hid o5; have T5 := Lib.hid t5; have O4' := Lib.hid (O4.out.past t5 I1.out I2.out); clear o5 t5)
        | (go_at_call 15; refine (alike_any (st.step (ops k)) p r _ O4'.out O5.out).mono ?_; rintro e w6 ⟨rfl, t6⟩; have y0 := turned_cell t6 (by exact z0) (by simp); have y1 := turned_cell t6 (by exact z1) (by simp); have y2 := turned_cell t6 (by exact z2) (by simp); have y3 := turned_cell t6 (by exact z3) (by simp); have y4 := turned_cell t6 (by exact z4) (by simp); have T6 := Lib.hid t6; clear t6))
      have HB4 := Lib.hid (below_path HB.out.drew T4.out I1.out hlo)
      have HB5 := Lib.hid (below_path HB4.out T5.out I2.out (by have := G1.out.size; omega))
      have HB6 := Lib.hid (below_turned HB5.out T6.out (by simp))
      go_wp2_with fail
      go_roundw
      case rel => exact ⟨k + 1, st.step (ops k), by omega, by go_num, OK2.out, O4'.out.stay T6.out, O5.out.stay T6.out, HB6.out⟩
      case measure => simp [intOf]; omega
    · go_wp2_with (go_at_call 9; refine (works_any _).mono ?_; rintro e w9 ⟨rfl, g9⟩)
      go_ret
      exact ⟨rfl, below_none HB.out g9⟩

set_option maxRecDepth 100000 in
set_option maxHeartbeats 8000000 in
theorem plays_bad (c : CF) (now : Int) (hb : -9223372036854775808 ≤ c.mtu ∧ c.mtu ≤ 9223372036854775807) (hf : ¬ c.fits now) (v : Value) (x : Nat × (Nat → OP)) (W : World) (ho : Ops W v x) (hn : x.1 ≤ 300) :
    Calls Try.prog 7 #[.agg c.cells, .int .i64 now, v] W fun e w' => e = .returned (.bool true) ∧ Below W.heap.size W w' := by
  obtain ⟨n, ops⟩ := x
  obtain ⟨⟨a, cap, rfl, hcap, hcap2, hsl⟩, hts⟩ := ho
  simp only at hn hts hsl hcap
  have HSL := Lib.hid hsl
  have HF := Lib.hid hf
  have HBD := Lib.hid hb
  clear hsl hts hf hb
  obtain ⟨c0, c1, c2, c3, c4, c5, c6, c7, c8, c9, c10, c11, c12, c13⟩ := c
  unfold CF.cells
  have hb0 := obj.new W 29 [.int .i64 c0, .int .i64 c1, .int .i64 c2, .int .i64 c3, .int .i64 c4, .int .i64 c5, .int .i64 c6, .int .i64 c7, .int .i64 c8, .int .i64 c9, .int .i64 c10, .int .i64 c11, .int .i64 c12, .int .i64 c13]
  have HC := Lib.hid (show obj (W.alloc (.cells #[.int .i64 c0, .int .i64 c1, .int .i64 c2, .int .i64 c3, .int .i64 c4, .int .i64 c5, .int .i64 c6, .int .i64 c7, .int .i64 c8, .int .i64 c9, .int .i64 c10, .int .i64 c11, .int .i64 c12, .int .i64 c13] 29)) W.heap.size 29 [.int .i64 c0, .int .i64 c1, .int .i64 c2, .int .i64 c3, .int .i64 c4, .int .i64 c5, .int .i64 c6, .int .i64 c7, .int .i64 c8, .int .i64 c9, .int .i64 c10, .int .i64 c11, .int .i64 c12, .int .i64 c13] from hb0)
  have HB0 := Lib.hid ((Below.refl W.heap.size W).alloc (Nat.le_refl _) (.cells #[.int .i64 c0, .int .i64 c1, .int .i64 c2, .int .i64 c3, .int .i64 c4, .int .i64 c5, .int .i64 c6, .int .i64 c7, .int .i64 c8, .int .i64 c9, .int .i64 c10, .int .i64 c11, .int .i64 c12, .int .i64 c13] 29))
  clear hb0
  go_enter Try.func7, Try.ntmps7
  go_wp2_with fail
  refine (pnew_any_bad _ now HBD.out HF.out _).mono ?_
  rintro e w1 ⟨rfl, g1⟩
  have B1 := Lib.hid (HC.out.kept g1 (by simp))
  have G1 := Lib.hid g1
  have m0 := B1.out.cell 0 rfl
  have m1 := B1.out.cell 1 rfl
  have m2 := B1.out.cell 2 rfl
  have m3 := B1.out.cell 3 rfl
  have m4 := B1.out.cell 4 rfl
  have m5 := B1.out.cell 5 rfl
  have m6 := B1.out.cell 6 rfl
  have m7 := B1.out.cell 7 rfl
  have m8 := B1.out.cell 8 rfl
  have m9 := B1.out.cell 9 rfl
  have m10 := B1.out.cell 10 rfl
  have m11 := B1.out.cell 11 rfl
  have m12 := B1.out.cell 12 rfl
  have m13 := B1.out.cell 13 rfl
  clear g1
  go_wp2_with fail
  refine (pnew_ref_bad _ now HBD.out HF.out _).mono ?_
  rintro e w2 ⟨rfl, g2⟩
  have HB2 := Lib.hid (below_none (below_none HB0.out G1.out) g2)
  clear g2 m0 m1 m2 m3 m4 m5 m6 m7 m8 m9 m10 m11 m12 m13
  go_wp2_with fail
  refine (alike_nil _).mono ?_
  rintro e w3 ⟨rfl, t3⟩
  have HB3 := Lib.hid (below_turned HB2.out t3 (by simp))
  clear t3
  go_wp2_with fail
  go_loopw [11] (fun i wr => ∃ k : Nat, k ≤ n ∧ i = .int .i64 (k : Int) ∧ Below W.heap.size W wr) (fun i _ => n - (intOf i).toNat)
  case atStart => exact ⟨0, Nat.zero_le _, rfl, HB3.out⟩
  case round =>
    obtain ⟨k, hk, rfl, hbel⟩ := hrel
    have HB := Lib.hid hbel
    clear hbel
    by_cases hlt : k < n
    · rcases HSL.out with h0 | ⟨b, off, rfl, hb, hc⟩
      · omega
      have hr0 := sl_cell (hc k 0 hlt (by decide)) hb HB.out
      have hr1 := sl_cell (hc k 1 hlt (by decide)) hb HB.out
      have hr2 := sl_cell (hc k 2 hlt (by decide)) hb HB.out
      have hr3 := sl_cell (hc k 3 hlt (by decide)) hb HB.out
      have hr4 := sl_cell (hc k 4 hlt (by decide)) hb HB.out
      simp at hr0 hr1 hr2 hr3 hr4
      clear hc
      go_wp2_with fail
      go_region_held3 (fun w' => w'.cell? ⟨b, off + k * 5, none⟩ = some (.int .i64 (ops k).k) ∧ w'.cell? ⟨b, off + k * 5 + 1, none⟩ = some (.int .i64 (ops k).n) ∧ w'.cell? ⟨b, off + k * 5 + 2, none⟩ = some (.bool (ops k).full) ∧ w'.cell? ⟨b, off + k * 5 + 3, none⟩ = some (.int .i64 (ops k).t) ∧ w'.cell? ⟨b, off + k * 5 + 4, none⟩ = some (.int .i64 (ops k).u)) (first | (simp [go_sem, *]; done) | assumption) (first
        | (go_at_call 14; refine (does_any_nil (ops k) _).mono ?_; rintro e w4 ⟨rfl, t4⟩; have q0 := turned_cell t4 (by exact hr0) (by simp); have q1 := turned_cell t4 (by exact hr1) (by simp); have q2 := turned_cell t4 (by exact hr2) (by simp); have q3 := turned_cell t4 (by exact hr3) (by simp); have q4 := turned_cell t4 (by exact hr4) (by simp); have T4 := Lib.hid t4; clear t4)
        | (go_at_call 23; refine (does_ref_nil (ops k) _).mono ?_; rintro e w5 ⟨rfl, t5⟩; have z0 := turned_cell t5 (by exact q0) (by simp); have z1 := turned_cell t5 (by exact q1) (by simp); have z2 := turned_cell t5 (by exact q2) (by simp); have z3 := turned_cell t5 (by exact q3) (by simp); have z4 := turned_cell t5 (by exact q4) (by simp); have T5 := Lib.hid t5; clear t5)
        | (go_at_call 15; refine (alike_nil _).mono ?_; rintro e w6 ⟨rfl, t6⟩; have y0 := turned_cell t6 (by exact z0) (by simp); have y1 := turned_cell t6 (by exact z1) (by simp); have y2 := turned_cell t6 (by exact z2) (by simp); have y3 := turned_cell t6 (by exact z3) (by simp); have y4 := turned_cell t6 (by exact z4) (by simp); have T6 := Lib.hid t6; clear t6))
      have HB4 := Lib.hid (below_turned HB.out.drew T4.out (by simp))
      have HB5 := Lib.hid (below_turned HB4.out T5.out (by simp))
      have HB6 := Lib.hid (below_turned HB5.out T6.out (by simp))
      go_wp2_with fail
      go_roundw
      case rel => exact ⟨k + 1, by omega, by go_num, HB6.out⟩
      case measure => simp [intOf]; omega
    · go_wp2_with (go_at_call 9; refine (works_any _).mono ?_; rintro e w9 ⟨rfl, g9⟩)
      go_ret
      exact ⟨rfl, below_none HB.out g9⟩

theorem pathPlays.walk (W : World) (v : Value) (c : CF) (oc : OpenedCF v c) (now : Int) (wn : (Lit.int .i64 now).wf = true) (v2 : Value) (x : Nat × (Nat → OP)) (ho : Ops W v2 x) :
    Calls Try.prog 7 #[v, .int .i64 now, v2] W fun e w' => e = .returned (.bool true) ∧ Below W.heap.size W w' := by
  obtain ⟨rfl, hb⟩ := oc
  by_cases hn : x.1 ≤ 300
  · by_cases hf : c.fits now
    · exact plays_good c now hf v2 x W ho hn
    · exact plays_bad c now hb hf v2 x W ho hn
  · obtain ⟨n, ops⟩ := x
    obtain ⟨⟨a, cap, rfl, hcap, hcap2, hsl⟩, hts⟩ := ho
    simp only at hn
    have hn2 : 300 < n := by omega
    clear hsl hts hn
    obtain ⟨c0, c1, c2, c3, c4, c5, c6, c7, c8, c9, c10, c11, c12, c13⟩ := c
    unfold CF.cells
    have HB0 := Lib.hid ((Below.refl W.heap.size W).alloc (Nat.le_refl _) (.cells #[.int .i64 c0, .int .i64 c1, .int .i64 c2, .int .i64 c3, .int .i64 c4, .int .i64 c5, .int .i64 c6, .int .i64 c7, .int .i64 c8, .int .i64 c9, .int .i64 c10, .int .i64 c11, .int .i64 c12, .int .i64 c13] 29))
    go_enter Try.func7, Try.ntmps7
    go_wp2_with (go_at_call 9; refine (works_any _).mono ?_; rintro e w9 ⟨rfl, g9⟩)
    go_ret
    exact ⟨rfl, below_none HB0.out g9⟩
end Go.Proofs.Ytfboihbanehgcaa
