/- Bytes copied, compared. Conditions: they lie in memory; at most 2^21. -/
import Derived.Test.YtcfpgeceenkheaaPiece
import Derived.WalkLawsBesides
import Derived.WalkSpells
import Derived.Laws.MakeOwn
import Derived.Laws.BitsAllLaws
import Derived.BigQuiet
import Derived.Outline
namespace Go.Proofs.Ytcfpgeceenkheaa
open Go.RowKit
set_option linter.unusedVariables false
set_option linter.unusedSimpArgs false

theorem infoB : (Try.prog.info? 5).map (fun i => (i.zero, i.size, i.bytes)) = some (some (.int .u8 0), 1, 1) := by kernel_rfl
set_option maxHeartbeats 1000000 in
theorem bclone (v : Value) (B : List Int) (w : World) (hv : LiesB w v B) (hB : B.length ≤ 4000000) :
    Calls Try.prog 25 #[v] w fun e w' => ∃ a c, e = .returned (.slice a B.length c) ∧ w'.ownsRow w.heap.size 5 1 (.slice a B.length c) B.length (flat cB B) ∧ turned w w' [] := by
  obtain ⟨a, cap, rfl, hc1, hc2⟩ := hv.1.form
  have HV := Lib.hid hv
  clear hv
  obtain ⟨i0, hi0, hz0, hz1, hz2⟩ := info_parts infoB
  have hnil := fun w => Lib.run_eql_slice_nil (P := Try.prog) w 23 5 a B.length cap 0 0 Try.underlying23
  cases a with
  | none =>
    have h0 : B.length = 0 := by
      rcases Nat.eq_zero_or_pos B.length with h | h
      · exact h
      · obtain ⟨b, off, e, _⟩ := HV.out.cell 0 h
        cases e
    have hS0 : B = [] := List.eq_nil_of_length_eq_zero h0
    subst hS0
    simp only [List.length_nil] at hnil ⊢
    go_enter Try.func25, Try.ntmps25
    go_wp2
    go_ret
    exact ⟨_, _, rfl, World.ownsRow_nil _ _ _ _, turned_refl _ _⟩
  | some ad =>
    go_enter Try.func25, Try.ntmps25
    go_wp2_with (first | (at_builtin; refine wpList_append_lies' _ rfl _ _ 23 rfl w.heap.size 5 i0 (.int .u8 0) 1 1 Try.underlying23 hi0 hz0 hz1 hz2 rfl (by decide) _ 0 [] rfl (World.ownsRow_lit w #[] 0 (Nat.le_refl _) (by decide) rfl) _ B.length (flat cB B) rfl (HV.out.1.none_ (turned_alloc (turned_refl w []) _)) (flat_one cB_one B) (by unfold maxLen; omega) (by omega) (by simp) ?_) | go_in)
    intro v' w' ho hg hl
    have t : turned w w' [] := turned_new (turned_alloc (turned_refl w []) _) hg (fun k e => by simp [Value.ownBlock] at e; omega)
    obtain ⟨a', c', rfl, _⟩ := row_form ho
    have HO := Lib.hid ho
    have TT := Lib.hid t
    clear ho hg hl t
    go_wp2
    go_ret
    exact ⟨_, _, rfl, HO.out, TT.out⟩
end Go.Proofs.Ytcfpgeceenkheaa
