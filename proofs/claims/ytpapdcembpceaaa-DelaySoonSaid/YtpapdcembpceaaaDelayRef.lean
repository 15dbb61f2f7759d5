/- Due of the reference; When of both. Conditions as in the other methods. -/
import Derived.Test.YtpapdcembpceaaaDelayDue
import Derived.Laws.EntriesVeiled
namespace Go.Proofs.Ytpapdcembpceaaa
open Go.RowKit
set_option linter.unusedVariables false
set_option linter.unusedSimpArgs false

set_option maxRecDepth 100000 in
set_option maxHeartbeats 2000000 in
theorem due_ref (x : DS) (hok : x.ok) (b : Nat) (now : Int) (w : World) (hx : obj w b 47 x.cells) :
    Calls Try.prog 19 #[.pointer (some ⟨b, 0, none⟩), .int .i64 now] w fun e w' => e = .returned (.bool (x.due now)) ∧ w.grownBy w' none := by
  obtain ⟨ti, ma, fi, ur⟩ := x
  obtain ⟨k1, k2, k3, k4, k5, k6⟩ := hok
  simp only at k1 k2 k3 k4 k5 k6
  have c0 := hx.cell 0 rfl
  have c1 := hx.cell 1 rfl
  have c2 := hx.cell 2 rfl
  have c3 := hx.cell 3 rfl
  simp only at c0 c1 c2 c3
  clear hx
  have D := Lib.hid (show DS.due ⟨ti, ma, fi, ur⟩ now = decide (0 < ma ∧ (ur = true ∨ 1 < ma ∨ fi + ti ≤ now)) from rfl)
  by_cases h0 : 0 < ma
  · have d0 : decide (0 < ma) = true := by simpa using h0
    cases ur
    · by_cases h2 : 1 < ma
      · have d1 : decide (1 < ma) = true := by simpa using h2
        go_enter Try.func19, Try.ntmps19
        go_wp2
        go_quiet (fail)
        go_wp2
        go_ret
        exact ⟨ret_bool (by rw [D.out]; simp; try omega), only_drewN _ (only_refl _ _)⟩
      · have d1 : decide (1 < ma) = false := by simpa using h2
        by_cases h3 : fi + ti ≤ now
        · have d2 : decide (fi + ti ≤ now) = true := by simpa using h3
          go_enter Try.func19, Try.ntmps19
          go_wp2
          go_quiet (fail)
          go_wp2
          go_ret
          exact ⟨ret_bool (by rw [D.out]; simp; try omega), only_drewN _ (only_refl _ _)⟩
        · have d2 : decide (fi + ti ≤ now) = false := by simpa using h3
          go_enter Try.func19, Try.ntmps19
          go_wp2
          go_quiet (fail)
          go_wp2
          go_ret
          exact ⟨ret_bool (by rw [D.out]; simp; try omega), only_drewN _ (only_refl _ _)⟩
    · have X : True := trivial
      go_enter Try.func19, Try.ntmps19
      go_wp2
      go_quiet (fail)
      go_wp2
      go_ret
      exact ⟨ret_bool (by rw [D.out]; simp; try omega), only_drewN _ (only_refl _ _)⟩
  · have d0 : decide (0 < ma) = false := by simpa using h0
    go_enter Try.func19, Try.ntmps19
    go_wp2
    go_quiet (fail)
    go_wp2
    go_ret
    exact ⟨ret_bool (by rw [D.out]; simp; try omega), only_drewN _ (only_refl _ _)⟩

set_option maxHeartbeats 1000000 in
theorem due_ref_nil (now : Int) (w : World) :
    Calls Try.prog 19 #[.pointer none, .int .i64 now] w fun e w' => e = .returned (.bool false) ∧ w.grownBy w' none := by
  go_enter Try.func19, Try.ntmps19
  go_wp2
  go_quiet (fail)
  go_wp2
  go_ret
  exact ⟨rfl, only_drewN _ (only_refl _ _)⟩
end Go.Proofs.Ytpapdcembpceaaa
