/- When of a delay and of its reference. Conditions as in the other methods. -/
import Derived.Test.YtpapdcembpceaaaDelayRef
namespace Go.Proofs.Ytpapdcembpceaaa
open Go.RowKit
set_option linter.unusedVariables false
set_option linter.unusedSimpArgs false

theorem ret_when {x : DS} {a : Int} {s : Bool} (h1 : a = x.at) (h2 : s = x.some) : Ending.returned (.tuple #[.int .i64 a, .bool s]) = .returned (.tuple #[.int .i64 x.at, .bool x.some]) := by rw [h1, h2]

set_option maxRecDepth 100000 in
set_option maxHeartbeats 2000000 in
theorem when_any (x : DS) (hok : x.ok) (b : Nat) (w : World) (hx : obj w b 45 x.cells) :
    Calls Try.prog 16 #[.pointer (some ⟨b, 0, none⟩)] w fun e w' => e = .returned (.tuple #[.int .i64 x.at, .bool x.some]) ∧ w.grownBy w' none := by
  have HK := Lib.hid hok
  have HX := Lib.hid hx
  obtain ⟨ti, ma, fi, ur⟩ := x
  obtain ⟨k1, k2, k3, k4, k5, k6⟩ := hok
  simp only at k1 k2 k3 k4 k5 k6
  have c0 := hx.cell 0 rfl
  have c1 := hx.cell 1 rfl
  have c2 := hx.cell 2 rfl
  have c3 := hx.cell 3 rfl
  simp only at c0 c1 c2 c3
  clear hx
  by_cases h0 : ma = 0
  · subst h0
    go_enter Try.func16, Try.ntmps16
    go_wp2
    go_ret2
    exact ⟨ret_when rfl rfl, only_refl _ _⟩
  · have z : (ma == 0) = false := by simp; omega
    cases hd : DS.due ⟨ti, ma, fi, ur⟩ fi
    · have e : ur = false ∧ ma = 1 := by
        unfold DS.due at hd
        cases ur <;> simp at hd ⊢ <;> omega
      have E := Lib.hid e
      clear e
      go_enter Try.func16, Try.ntmps16
      go_wp2_with (go_at_call 18; refine (due_any ⟨ti, ma, fi, ur⟩ HK.out _ _ _ HX.out).mono ?_; rintro e w1 ⟨rfl, g1⟩; have G1 := Lib.hid g1; have o1 := HX.out.kept g1 (by simp); clear g1; have q0 := o1.cell 0 rfl; have q2 := o1.cell 2 rfl; simp only at q0 q2; clear o1)
      go_quiet (fail)
      go_wp2
      go_ret2
      refine ⟨ret_when ?_ ?_, only_drewN _ G1.out⟩
      · obtain ⟨e1, e2⟩ := E.out
        simp [DS.at, e1, e2]
      · simp [DS.some]; omega
    · have e : DS.at ⟨ti, ma, fi, ur⟩ = fi := by
        unfold DS.due at hd
        simp only [DS.at]
        simp at hd
        rw [if_neg h0]
        by_cases hu : ur = true ∨ 1 < ma
        · rw [if_pos hu]
        · rw [if_neg hu]
          have := hd.2
          cases ur <;> simp at this hu <;> omega
      have E := Lib.hid e
      clear e
      go_enter Try.func16, Try.ntmps16
      go_wp2_with (go_at_call 18; refine (due_any ⟨ti, ma, fi, ur⟩ HK.out _ _ _ HX.out).mono ?_; rintro e w1 ⟨rfl, g1⟩; have G1 := Lib.hid g1; have o1 := HX.out.kept g1 (by simp); clear g1; have q0 := o1.cell 0 rfl; have q2 := o1.cell 2 rfl; simp only at q0 q2; clear o1)
      go_ret2
      refine ⟨ret_when E.out.symm ?_, G1.out⟩
      simp [DS.some]; omega

set_option maxHeartbeats 1000000 in
theorem when_any_nil (w : World) :
    Calls Try.prog 16 #[.pointer none] w fun e w' => e = .returned (.tuple #[.int .i64 0, .bool false]) ∧ w = w' := by
  go_enter Try.func16, Try.ntmps16
  go_wp2
  go_ret2
  exact ⟨rfl, rfl⟩

set_option maxRecDepth 100000 in
set_option maxHeartbeats 2000000 in
theorem when_ref (x : DS) (hok : x.ok) (b : Nat) (w : World) (hx : obj w b 47 x.cells) :
    Calls Try.prog 17 #[.pointer (some ⟨b, 0, none⟩)] w fun e w' => e = .returned (.tuple #[.int .i64 x.at, .bool x.some]) ∧ w.grownBy w' none := by
  have HK := Lib.hid hok
  have HX := Lib.hid hx
  obtain ⟨ti, ma, fi, ur⟩ := x
  obtain ⟨k1, k2, k3, k4, k5, k6⟩ := hok
  simp only at k1 k2 k3 k4 k5 k6
  have c0 := hx.cell 0 rfl
  have c1 := hx.cell 1 rfl
  have c2 := hx.cell 2 rfl
  have c3 := hx.cell 3 rfl
  simp only at c0 c1 c2 c3
  clear hx
  by_cases h0 : ma = 0
  · subst h0
    go_enter Try.func17, Try.ntmps17
    go_wp2
    go_ret2
    exact ⟨ret_when rfl rfl, by repeat (first | exact only_refl _ _ | apply only_drew)⟩
  · have z : (ma == 0) = false := by simp; omega
    cases ur
    · by_cases h2 : 1 < ma
      · have d1 : decide (1 < ma) = true := by simpa using h2
        go_enter Try.func17, Try.ntmps17
        go_wp2
        all_goals (try (go_quiet (fail)))
        all_goals go_wp2
        all_goals (try (go_quiet (fail)))
        all_goals go_wp2
        all_goals go_ret2
        all_goals refine ⟨ret_when ?_ ?_, by repeat (first | exact only_refl _ _ | apply only_drew | apply only_drewN)⟩
        all_goals simp [DS.at, DS.some]
        all_goals omega
      · have d1 : decide (1 < ma) = false := by simpa using h2
        go_enter Try.func17, Try.ntmps17
        go_wp2
        all_goals (try (go_quiet (fail)))
        all_goals go_wp2
        all_goals (try (go_quiet (fail)))
        all_goals go_wp2
        all_goals go_ret2
        all_goals refine ⟨ret_when ?_ ?_, by repeat (first | exact only_refl _ _ | apply only_drew | apply only_drewN)⟩
        all_goals simp [DS.at, DS.some]
        all_goals omega
    · have X : True := trivial
      go_enter Try.func17, Try.ntmps17
      go_wp2
      all_goals (try (go_quiet (fail)))
      all_goals go_wp2
      all_goals (try (go_quiet (fail)))
      all_goals go_wp2
      all_goals go_ret2
      all_goals refine ⟨ret_when ?_ ?_, by repeat (first | exact only_refl _ _ | apply only_drew | apply only_drewN)⟩
      all_goals simp [DS.at, DS.some]
      all_goals omega

set_option maxHeartbeats 1000000 in
theorem when_ref_nil (w : World) :
    Calls Try.prog 17 #[.pointer none] w fun e w' => e = .returned (.tuple #[.int .i64 0, .bool false]) ∧ w = w' := by
  go_enter Try.func17, Try.ntmps17
  go_wp2
  go_ret2
  exact ⟨rfl, rfl⟩
end Go.Proofs.Ytpapdcembpceaaa
