/- The anchor of the laws of chapter 16; how a list of things done comes in. No condition. -/
import Derived.Test.YtpapdcembpceaaaDelayWhen
namespace Go.Proofs.Ytpapdcembpceaaa
open Go.RowKit Go.ChangeShapes Go.WideShapes Go.Deep
set_option linter.unusedVariables false
set_option linter.unusedSimpArgs false

def wk1 : DS := ⟨5, 1, 10, false⟩
def wk2 : DS := ⟨5, 2, 10, false⟩
def wk3 : DS := ⟨5, 0, 10, false⟩
def wk4 : DS := ⟨5, 1, 20, true⟩
theorem wk1_eq : (DS.init 5).packet 10 false = wk1 := by kernel_rfl
theorem wk2_eq : wk1.packet 11 false = wk2 := by kernel_rfl
theorem wk3_eq : wk2.sent = wk3 := by kernel_rfl
theorem wk4_eq : wk3.packet 20 true = wk4 := by kernel_rfl
theorem wk0_ok : (DS.init 5).ok := dok_init (by decide)
theorem wk1_ok : wk1.ok := by unfold DS.ok wk1; decide
theorem wk2_ok : wk2.ok := by unfold DS.ok wk2; decide
theorem wk3_ok : wk3.ok := by unfold DS.ok wk3; decide
theorem wk4_ok : wk4.ok := by unfold DS.ok wk4; decide

/-- What was not there may be written: all else is as it was. -/
theorem only_new {w w1 w2 : World} (h : w.grownBy w1 none) {b : Nat} (hb : w.heap.size ≤ b) (k : w1.grownBy w2 (some b)) : w.grownBy w2 none :=
  ⟨k.os.trans h.os, k.tape.trans h.tape, k.output.trans h.output, Nat.le_trans h.size k.size, fun i hi hn => (k.block i (Nat.lt_of_lt_of_le hi h.size) (by simp; omega)).trans (h.block i hi hn)⟩

set_option maxRecDepth 100000 in
set_option maxHeartbeats 2000000 in
theorem works_any (w : World) : Calls Try.prog 9 #[] w fun e w' => e = .returned (.bool true) ∧ w.grownBy w' none := by
  have v0 : (DS.init 5).due 9 = false := by decide
  have v1 : wk1.due 14 = false := by decide
  have v2 : wk1.due 15 = true := by decide
  have v3 : wk2.at = 10 := by decide
  have v4 : wk2.some = true := by decide
  have v5 : wk2.due 11 = true := by decide
  have v6 : wk3.due 99 = false := by decide
  have v7 : wk4.due 20 = true := by decide
  go_enter Try.func9, Try.ntmps9
  go_wp2_with fail
  refine (new_any 5 (by decide) _).mono ?_
  rintro e w1 ⟨rfl, o1, g1⟩
  have O1 := Lib.hid o1
  have G1 := Lib.hid g1
  clear o1 g1
  go_wp2_with fail
  refine (due_any _ wk0_ok _ 9 _ O1.out).mono ?_
  rintro e w2 ⟨rfl, g2⟩
  have G2 := Lib.hid g2
  clear g2
  have O2 := Lib.hid (O1.out.kept G2.out (by simp))
  go_wp2_with fail
  refine (packet_any _ wk0_ok _ 10 false _ O2.out).mono ?_
  rintro e w3 ⟨rfl, o3, g3⟩
  rw [wk1_eq] at o3
  have O3 := Lib.hid o3
  have G3 := Lib.hid g3
  clear o3 g3
  go_wp2_with fail
  refine (due_any _ wk1_ok _ 14 _ O3.out).mono ?_
  rintro e w4 ⟨rfl, g4⟩
  have G4 := Lib.hid g4
  clear g4
  have O4 := Lib.hid (O3.out.kept G4.out (by simp))
  go_wp2_with fail
  refine (due_any _ wk1_ok _ 15 _ O4.out).mono ?_
  rintro e w5 ⟨rfl, g5⟩
  have G5 := Lib.hid g5
  clear g5
  have O5 := Lib.hid (O4.out.kept G5.out (by simp))
  go_wp2_with fail
  refine (packet_any _ wk1_ok _ 11 false _ O5.out).mono ?_
  rintro e w6 ⟨rfl, o6, g6⟩
  rw [wk2_eq] at o6
  have O6 := Lib.hid o6
  have G6 := Lib.hid g6
  clear o6 g6
  go_wp2_with fail
  refine (when_any _ wk2_ok _ _ O6.out).mono ?_
  rintro e w7 ⟨rfl, g7⟩
  have G7 := Lib.hid g7
  clear g7
  have O7 := Lib.hid (O6.out.kept G7.out (by simp))
  go_wp2_with fail
  refine (due_any _ wk2_ok _ 11 _ O7.out).mono ?_
  rintro e w8 ⟨rfl, g8⟩
  have G8 := Lib.hid g8
  clear g8
  have O8 := Lib.hid (O7.out.kept G8.out (by simp))
  go_wp2_with fail
  refine (sent_any _ _ _ O8.out).mono ?_
  rintro e w9 ⟨rfl, o9, g9⟩
  rw [wk3_eq] at o9
  have O9 := Lib.hid o9
  have G9 := Lib.hid g9
  clear o9 g9
  go_wp2_with fail
  refine (due_any _ wk3_ok _ 99 _ O9.out).mono ?_
  rintro e w10 ⟨rfl, g10⟩
  have G10 := Lib.hid g10
  clear g10
  have O10 := Lib.hid (O9.out.kept G10.out (by simp))
  go_wp2_with fail
  refine (packet_any _ wk3_ok _ 20 true _ O10.out).mono ?_
  rintro e w11 ⟨rfl, o11, g11⟩
  rw [wk4_eq] at o11
  have O11 := Lib.hid o11
  have G11 := Lib.hid g11
  clear o11 g11
  go_wp2_with fail
  refine (due_any _ wk4_ok _ 20 _ O11.out).mono ?_
  rintro e w12 ⟨rfl, g12⟩
  have G12 := Lib.hid g12
  clear g12
  go_wp2_with fail
  go_ret
  refine ⟨rfl, ?_⟩
  have a1 := G1.out
  have a2 := only_trans a1 G2.out
  have a3 := only_new a2 (Nat.le_refl _) G3.out
  have a4 := only_trans (only_trans a3 G4.out) G5.out
  have a6 := only_new a4 (Nat.le_refl _) G6.out
  have a8 := only_trans (only_trans a6 G7.out) G8.out
  have a9 := only_new a8 (Nat.le_refl _) G9.out
  have a10 := only_trans a9 G10.out
  have a11 := only_new a10 (Nat.le_refl _) G11.out
  exact only_trans a11 G12.out

/-- The things done, as they come in: how many; of each its kind, its moment, whether it is urgent. -/
def Ops (W : World) (v : Value) (x : Nat × (Nat → Int) × (Nat → Int) × (Nat → Bool)) : Prop :=
  IsSl W v x.1 3 (fun i j => if j = 0 then .int .i64 (x.2.1 i) else if j = 1 then .int .i64 (x.2.2.1 i) else .bool (x.2.2.2 i)) ∧ ∀ i, i < x.1 → (-9223372036854775808 ≤ x.2.1 i ∧ x.2.1 i ≤ 9223372036854775807) ∧ (-9223372036854775808 ≤ x.2.2.1 i ∧ x.2.2.1 i ≤ 9223372036854775807)
theorem opened22 {H : Type} {enc : TypeId × Value → H} {W : World} {r : Reach} {base : Nat} {v : Value} {d : DataW H} {p : List MemPlace}
    (hv : Value.okWide Try.prog W r base 22 v) (h : DataW.Trod enc Try.prog W 0 (fun _ => true) true 22 v d p) : ∃ x, Ops W v x := by
  obtain ⟨n, V, hsl, hV⟩ := openSl 3 Try.underlying22 Try.underlying32 (by kernel_rfl) (by kernel_rfl) rfl (by decide) hv h
  have e0 : ∀ i, i < n → ∃ c : Int, V i 0 = .int .i64 c ∧ (Lit.int .i64 c).wf = true := fun i hi => by
    obtain ⟨m, y, hy⟩ := hV i hi 0 _ rfl
    exact trod_int1 Try.underlying3 hy
  have e1 : ∀ i, i < n → ∃ c : Int, V i 1 = .int .i64 c ∧ (Lit.int .i64 c).wf = true := fun i hi => by
    obtain ⟨m, y, hy⟩ := hV i hi 1 _ rfl
    exact trod_int1 Try.underlying2 hy
  have e2 : ∀ i, i < n → ∃ c : Bool, V i 2 = .bool c := fun i hi => by
    obtain ⟨m, y, hy⟩ := hV i hi 2 _ rfl
    exact trod_bool1 Try.underlying4 hy
  obtain ⟨ks, hks⟩ := choose_lt e0
  obtain ⟨ts, hts⟩ := choose_lt e1
  obtain ⟨us, hus⟩ := choose_lt e2
  refine ⟨(n, ks, ts, us), isSl_congr hsl fun i j hi hj => ?_, fun i hi => ⟨bounds_i64 (hks i hi).2, bounds_i64 (hts i hi).2⟩⟩
  have : j = 0 ∨ j = 1 ∨ j = 2 := by omega
  rcases this with rfl | rfl | rfl
  · rw [(hks i hi).1]; rfl
  · rw [(hts i hi).1]; rfl
  · rw [hus i hi]; rfl
end Go.Proofs.Ytpapdcembpceaaa
