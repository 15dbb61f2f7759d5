/- The anchor of the laws of chapter 12; how a list of things done comes in. No condition. -/
import Derived.Test.YtkggggpikebbkaaRtoNew
namespace Go.Proofs.Ytkggggpikebbkaa
open Go.RowKit Go.ChangeShapes Go.WideShapes Go.Deep
set_option linter.unusedVariables false
set_option linter.unusedSimpArgs false

def wk1 : RS := ⟨24, 1, 60, true, 64, 16⟩
def wk2 : RS := ⟨20, 1, 60, true, 64, 12⟩
def wk3 : RS := ⟨24, 1, 60, true, 56, 17⟩
def wk4 : RS := ⟨48, 1, 60, true, 56, 17⟩
theorem wk1_eq : (RS.init 3 1 60).sample 8 = wk1 := by kernel_rfl
theorem wk2_eq : wk1.sample 8 = wk2 := by kernel_rfl
theorem wk3_eq : wk2.sample 0 = wk3 := by kernel_rfl
theorem wk4_eq : wk3.back = wk4 := by kernel_rfl
theorem wk0_ok : (RS.init 3 1 60).ok := by unfold RS.ok RS.init; decide
theorem wk1_ok : wk1.ok := by unfold RS.ok wk1; decide
theorem wk2_ok : wk2.ok := by unfold RS.ok wk2; decide
theorem wk3_ok : wk3.ok := by unfold RS.ok wk3; decide
theorem wk4_ok : wk4.ok := by unfold RS.ok wk4; decide
theorem wk_fits : fits 3 1 60 := by unfold fits; decide

set_option maxRecDepth 100000 in
set_option maxHeartbeats 2000000 in
theorem works_any (w : World) : Calls Try.prog 9 #[] w fun e w' => e = .returned (.bool true) ∧ w.grownBy w' none := by
  have v0 : (RS.init 3 1 60).v = 3 := rfl
  have v1 : wk1.v = 24 := rfl
  have v2 : wk2.v = 20 := rfl
  have v3 : wk3.v = 24 := rfl
  have v4 : wk4.v = 48 := rfl
  have s4 : wk4.smooth = 7 := by kernel_rfl
  have a4 : wk4.any = true := rfl
  go_enter Try.func9, Try.ntmps9
  go_wp2_with fail
  refine (new_any 3 1 60 wk_fits _).mono ?_
  rintro e w1 ⟨rfl, o1, g1⟩
  have O1 := Lib.hid o1
  have G1 := Lib.hid g1
  clear o1 g1
  go_wp2_with fail
  refine (value_any _ _ _ O1.out).mono ?_
  rintro e w1' ⟨rfl, rfl⟩
  go_wp2_with fail
  refine (sample_any _ wk0_ok _ 8 (by decide) (by decide) _ O1.out).mono ?_
  rintro e w2 ⟨rfl, o2, g2⟩
  rw [wk1_eq] at o2
  have O2 := Lib.hid o2
  have G2 := Lib.hid g2
  clear o2 g2
  go_wp2_with fail
  refine (value_any _ _ _ O2.out).mono ?_
  rintro e w2' ⟨rfl, rfl⟩
  go_wp2_with fail
  refine (sample_any _ wk1_ok _ 8 (by decide) (by decide) _ O2.out).mono ?_
  rintro e w3 ⟨rfl, o3, g3⟩
  rw [wk2_eq] at o3
  have O3 := Lib.hid o3
  have G3 := Lib.hid g3
  clear o3 g3
  go_wp2_with fail
  refine (value_any _ _ _ O3.out).mono ?_
  rintro e w3' ⟨rfl, rfl⟩
  go_wp2_with fail
  refine (sample_any _ wk2_ok _ 0 (by decide) (by decide) _ O3.out).mono ?_
  rintro e w4 ⟨rfl, o4, g4⟩
  rw [wk3_eq] at o4
  have O4 := Lib.hid o4
  have G4 := Lib.hid g4
  clear o4 g4
  go_wp2_with fail
  refine (value_any _ _ _ O4.out).mono ?_
  rintro e w4' ⟨rfl, rfl⟩
  go_wp2_with fail
  refine (back_any _ wk3_ok _ _ O4.out).mono ?_
  rintro e w5 ⟨rfl, o5, g5⟩
  rw [wk4_eq] at o5
  have O5 := Lib.hid o5
  have G5 := Lib.hid g5
  clear o5 g5
  go_wp2_with fail
  refine (smooth_any _ wk4_ok _ _ O5.out).mono ?_
  rintro e w5' ⟨rfl, rfl⟩
  go_wp2_with fail
  refine (value_any _ _ _ O5.out).mono ?_
  rintro e w5' ⟨rfl, rfl⟩
  go_wp2_with fail
  refine (sample_any_neg _ (-1) (by decide) _).mono ?_
  rintro e w5' ⟨rfl, rfl⟩
  go_wp2_with fail
  go_ret
  refine ⟨rfl, ?_⟩
  have hb : ∀ k, k < w.heap.size → some k ≠ some w.heap.size := fun k hk e => by cases e; omega
  exact ⟨G5.out.os.trans (G4.out.os.trans (G3.out.os.trans (G2.out.os.trans G1.out.os))), G5.out.tape.trans (G4.out.tape.trans (G3.out.tape.trans (G2.out.tape.trans G1.out.tape))),
    G5.out.output.trans (G4.out.output.trans (G3.out.output.trans (G2.out.output.trans G1.out.output))),
    by have := G1.out.size; have := G2.out.size; have := G3.out.size; have := G4.out.size; have := G5.out.size; omega,
    fun k hk _ => by
      have h1 := G1.out.size; have h2 := G2.out.size; have h3 := G3.out.size; have h4 := G4.out.size
      rw [G5.out.block k (by omega) (hb k hk), G4.out.block k (by omega) (hb k hk), G3.out.block k (by omega) (hb k hk), G2.out.block k (by omega) (hb k hk), G1.out.block k hk (by simp)]⟩

/-- The things done, as they come in: how many, which are Backs, the times. -/
def Ops (W : World) (v : Value) (x : Nat × (Nat → Bool) × (Nat → Int)) : Prop :=
  IsSl W v x.1 2 (fun i j => if j = 0 then .bool (x.2.1 i) else .int .i64 (x.2.2 i)) ∧ ∀ i, i < x.1 → -9223372036854775808 ≤ x.2.2 i ∧ x.2.2 i ≤ 9223372036854775807
end Go.Proofs.Ytkggggpikebbkaa
