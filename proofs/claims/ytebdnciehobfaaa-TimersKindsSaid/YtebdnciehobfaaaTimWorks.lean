/- The anchor of the laws of chapter 24; TimersNil. No condition. -/
import Derived.Test.YtebdnciehobfaaaTimHeldS
namespace Go.Proofs.Ytebdnciehobfaaa
open Go.RowKit Go.Maps
set_option linter.unusedVariables false
set_option linter.unusedSimpArgs false

set_option maxRecDepth 100000 in
set_option maxHeartbeats 4000000 in
theorem works_any (w : World) : Calls Try.prog 10 #[] w fun e w' => e = .returned (.bool true) ∧ Below w.heap.size w w' := by
  go_enter Try.func10, Try.ntmps10
  go_wp2_with fail
  refine (hnewS (Below.refl _ w)).mono ?_
  rintro e w0 ⟨rfl, h0⟩
  have H0 := Lib.hid h0
  clear h0
  go_wp2_with fail
  refine (hsetS H0.out ⟨#[97]⟩ 5 (keyS (by decide)) (by omega)).mono ?_
  rintro e w1 ⟨rfl, h1⟩
  have H1 := Lib.hid (h1.val (L' := [(⟨#[97]⟩, 5)]) (by decide) (Nat.le_refl _))
  clear h1
  go_wp2_with fail
  refine (hsetS H1.out ⟨#[98]⟩ 3 (keyS (by decide)) (by omega)).mono ?_
  rintro e w2 ⟨rfl, h2⟩
  have H2 := Lib.hid (h2.val (L' := [(⟨#[97]⟩, 5), (⟨#[98]⟩, 3)]) (by decide) (Nat.le_refl _))
  clear h2
  go_wp2_with fail
  refine (hsetS H2.out ⟨#[99]⟩ 3 (keyS (by decide)) (by omega)).mono ?_
  rintro e w3 ⟨rfl, h3⟩
  have H3 := Lib.hid (h3.val (L' := [(⟨#[97]⟩, 5), (⟨#[98]⟩, 3), (⟨#[99]⟩, 3)]) (by decide) (Nat.le_refl _))
  clear h3
  go_wp2_with fail
  refine (hsetS H3.out ⟨#[98]⟩ 3 (keyS (by decide)) (by omega)).mono ?_
  rintro e w4 ⟨rfl, h4⟩
  have H4 := Lib.hid (h4.val (L' := [(⟨#[97]⟩, 5), (⟨#[99]⟩, 3), (⟨#[98]⟩, 3)]) (by decide) (Nat.le_refl _))
  clear h4
  go_wp2_with fail
  refine (hnextS H4.out).mono ?_
  rintro e w5 ⟨rfl, h5⟩
  rw [show best ([(⟨#[97]⟩, 5), (⟨#[99]⟩, 3), (⟨#[98]⟩, 3)] : List (ByteArray × Int)) = some (⟨#[99]⟩, 3) from by decide]
  unfold outS
  have H5 := Lib.hid h5
  clear h5
  go_wp2_with fail
  refine (hpopS H5.out 2).mono ?_
  rintro e w6 ⟨rfl, h6⟩
  rw [show popVS 2 ([(⟨#[97]⟩, 5), (⟨#[99]⟩, 3), (⟨#[98]⟩, 3)] : List (ByteArray × Int)) = (ByteArray.empty, false) from by decide]
  have H6 := Lib.hid (h6.val (L' := ([(⟨#[97]⟩, 5), (⟨#[99]⟩, 3), (⟨#[98]⟩, 3)] : List (ByteArray × Int))) (by decide) (Nat.le_refl _))
  clear h6
  go_wp2_with fail
  refine (hpopS H6.out 3).mono ?_
  rintro e w7 ⟨rfl, h7⟩
  rw [show popVS 3 ([(⟨#[97]⟩, 5), (⟨#[99]⟩, 3), (⟨#[98]⟩, 3)] : List (ByteArray × Int)) = (⟨#[99]⟩, true) from by decide]
  have H7 := Lib.hid (h7.val (L' := ([(⟨#[97]⟩, 5), (⟨#[98]⟩, 3)] : List (ByteArray × Int))) (by decide) (Nat.le_refl _))
  clear h7
  unfold mkS
  go_wp2_with fail
  refine (hlenS H7.out).mono ?_
  rintro e w8 ⟨rfl, rfl⟩
  go_wp2
  go_ret
  exact ⟨rfl, H7.out.below⟩

set_option maxHeartbeats 4000000 in
theorem timersNil.walk (W : World) (k : ByteArray) (wk : k.size ≤ maxLen) (a : Int) (wa : (Lit.int .i64 a).wf = true) :
    Calls Try.prog 9 #[.string k, .int .i64 a] W fun e w' => e = .returned (.bool true) ∧ Below W.heap.size W w' := by
  go_enter Try.func9, Try.ntmps9
  go_wp2_with fail
  refine (tsetS_nil k a _).mono ?_
  rintro e w1 ⟨rfl, rfl⟩
  go_wp2_with fail
  refine (tnextS_nil _).mono ?_
  rintro e w1 ⟨rfl, rfl⟩
  go_wp2_with fail
  refine (tpopS_nil a _).mono ?_
  rintro e w1 ⟨rfl, rfl⟩
  unfold mkS
  go_wp2_with fail
  refine (tstopS_nil k _).mono ?_
  rintro e w1 ⟨rfl, rfl⟩
  go_wp2_with fail
  refine (tlenS_nil _).mono ?_
  rintro e w1 ⟨rfl, rfl⟩
  go_wp2_with fail
  refine (works_any _).mono ?_
  rintro e w1 ⟨rfl, b1⟩
  go_wp2
  go_ret
  exact ⟨rfl, b1⟩
end Go.Proofs.Ytebdnciehobfaaa
