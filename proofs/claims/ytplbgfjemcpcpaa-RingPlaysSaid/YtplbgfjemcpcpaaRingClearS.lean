/- Clear of a ring of things of type string. Conditions: the ring lies in memory with these things. -/
import Derived.Test.YtplbgfjemcpcpaaRingS
import Derived.Test.YtplbgfjemcpcpaaRingMore
import Derived.Deep.LoopGhost
namespace Go.Proofs.Ytplbgfjemcpcpaa
open Go.RowKit Go.Conc
set_option linter.unusedVariables false
set_option linter.unusedSimpArgs false

def ClrRelS (w : World) (b : Nat) (F : List Nat) (most : Nat) (k : Nat) (wr : World) : Prop :=
  ∃ (F' : List Nat) (Q : List ByteArray), Q.length = k ∧ ringS wr b F' most Q ∧ newFoot w F F' ∧ ∃ L, turned w wr L ∧ newFoot w F L
set_option maxRecDepth 100000 in
set_option maxHeartbeats 4000000 in
theorem clearS (b : Nat) (F : List Nat) (most : Nat) (Q : List ByteArray) (w : World) (h : ringS w b F most Q) :
    Calls Try.prog 31 #[.pointer (some ⟨b, 0, none⟩)] w fun e w' => e = .returned (.tuple #[]) ∧ ClrRelS w b F most 0 w' := by
  have H := Lib.hid h
  clear h
  go_enter Try.func31, Try.ntmps31
  go_wp2_with fail
  go_loopg [4] Q.length (fun k _ wr => ClrRelS w b F most k wr)
  case atStart => exact ⟨F, Q, rfl, H.out, fun k hk => Or.inl hk, [], turned_refl _ _, fun k hk => by simp at hk⟩
  case round =>
    obtain ⟨F', Q', hl, hr, hF, L, ht, hL⟩ := hrel
    have HR := Lib.hid hr
    have HF := Lib.hid hF
    have HT := Lib.hid ht
    have HL := Lib.hid hL
    have HK := Lib.hid hl
    clear hl hr hF ht hL
    cases Q' with
    | nil =>
      have l0 : ((([] : List ByteArray).length : Nat) : Int) = 0 := rfl
      go_wp2_with fail
      refine (rlenS b F' most [] _ HR.out).mono ?_
      rintro e w9 ⟨rfl, rfl⟩
      go_wp2_with fail
      go_end0
      exact ⟨rfl, F', [], rfl, HR.out, HF.out, L, HT.out, HL.out⟩
    | cons x Q' =>
      have l1 : (0 : Int) < (((x :: Q').length : Nat) : Int) := by simp
      go_wp2_with fail
      refine (rlenS b F' most (x :: Q') _ HR.out).mono ?_
      rintro e w9 ⟨rfl, rfl⟩
      go_wp2_with fail
      refine (popS b F' most Q' x _ HR.out).mono ?_
      rintro e w2 ⟨rfl, ⟨F2, h2, g2⟩, t2⟩
      have H2 := Lib.hid h2
      have G2 := Lib.hid (newFoot_more HF.out HT.out.2.2.2.1 g2)
      have T2 := Lib.hid (turned_foot HF.out HT.out HL.out t2)
      clear h2 g2 t2 l1
      go_wp2_with fail
      go_roundg Q'.length
      case measure => have := HK.out; simp at this; omega
      case rel => exact ⟨F2, Q', rfl, H2.out, G2.out, T2.out⟩
set_option maxHeartbeats 4000000 in
theorem clearS_nil (w : World) :
    Calls Try.prog 31 #[.pointer none] w fun e w' => e = .returned (.tuple #[]) ∧ w = w' := by
  go_enter Try.func31, Try.ntmps31
  go_wp2_with fail
  refine wp_loop_rounds 1 ?_
  rw [rounds_succ]
  go_wp2_with fail
  refine (rlenS_nil _).mono ?_
  rintro e w9 ⟨rfl, rfl⟩
  go_wp2_with fail
  go_end0
  exact ⟨rfl, rfl⟩
end Go.Proofs.Ytplbgfjemcpcpaa
