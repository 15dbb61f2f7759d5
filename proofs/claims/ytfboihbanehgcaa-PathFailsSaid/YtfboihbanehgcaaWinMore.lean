/- Acked, Fast and Timeout of the window. Conditions as in the others. -/
import Derived.Test.YtfboihbanehgcaaWinAcked
namespace Go.Proofs.Ytfboihbanehgcaa
open Go.RowKit
set_option linter.unusedVariables false
set_option linter.unusedSimpArgs false

set_option maxHeartbeats 2000000 in
theorem acked_any (x : WS) {p : Int} (hok : x.ok p) (hp : p ≤ 1000000000000) (b : Nat) (n : Int) (hn : 1 ≤ n) (hn2 : n ≤ 9223372036854775807) (full : Bool) (w : World) (hx : obj w b 81 x.cells) :
    Calls Try.prog 52 #[.pointer (some ⟨b, 0, none⟩), .int .i64 n, .bool full] w fun e w' => e = .returned (.tuple #[]) ∧ obj w' b 81 (x.acked n full).cells ∧ w.grownBy w' (some b) := by
  have HOK := Lib.hid hok
  have HX := Lib.hid hx
  have c2 := hx.cell 2 rfl
  have c3 := hx.cell 3 rfl
  have HA := Lib.hid (show x.acked n full = (x.grow n full).cap by unfold WS.acked; exact if_neg (by omega))
  clear hx hok
  by_cases hs : x.thresh < x.size
  · have X : True := trivial
    have HG := Lib.hid (show x.grow n full = x.avoid n full by unfold WS.grow; exact if_pos hs)
    have d1 : decide (x.thresh < x.size) = true := by simpa using hs
    go_enter Try.func52, Try.ntmps52
    go_wp2_with fail
    go_quiet (fail)
    go_wp2_with fail
    refine (avoid_any x HOK.out hp b n hn hn2 full _ (HX.out.drewN _)).mono ?_
    rintro e w1 ⟨rfl, o1, g1⟩
    rw [← HG.out] at o1
    generalize hgx : x.grow n full = gx at *
    have HGX := Lib.hid hgx
    have O1 := Lib.hid o1
    have G1 := Lib.hid g1
    have q1 := o1.cell 1 rfl
    have q2 := o1.cell 2 rfl
    have qf := o1.free 2
    clear o1 g1 hgx
    go_wp2_with fail
    go_region
    go_end0
    refine ⟨rfl, ?_, only_trans (only_trans (only_drewN _ (only_refl _ _)) G1.out) (by repeat (first | exact only_refl _ _ | apply only_drew | apply only_drewN | apply only_set))⟩
    rw [HA.out]
    refine obj_val (O1.out.set 2 _).drew ?_
    simp [WS.cells, WS.cap, List.set]
    omega
  · have X : True := trivial
    have HG := Lib.hid (show x.grow n full = x.slow n full by unfold WS.grow; exact if_neg hs)
    have d1 : decide (x.thresh < x.size) = false := by simpa using hs
    go_enter Try.func52, Try.ntmps52
    go_wp2_with fail
    go_quiet (fail)
    go_wp2_with fail
    refine (slow_any x HOK.out hp b n hn hn2 full _ (HX.out.drewN _)).mono ?_
    rintro e w1 ⟨rfl, o1, g1⟩
    rw [← HG.out] at o1
    generalize hgx : x.grow n full = gx at *
    have HGX := Lib.hid hgx
    have O1 := Lib.hid o1
    have G1 := Lib.hid g1
    have q1 := o1.cell 1 rfl
    have q2 := o1.cell 2 rfl
    have qf := o1.free 2
    clear o1 g1 hgx
    go_wp2_with fail
    go_region
    go_end0
    refine ⟨rfl, ?_, only_trans (only_trans (only_drewN _ (only_refl _ _)) G1.out) (by repeat (first | exact only_refl _ _ | apply only_drew | apply only_drewN | apply only_set))⟩
    rw [HA.out]
    refine obj_val (O1.out.set 2 _).drew ?_
    simp [WS.cells, WS.cap, List.set]
    omega

set_option maxHeartbeats 2000000 in
theorem fast_any (x : WS) {p : Int} (hok : x.ok p) (b : Nat) (w : World) (hx : obj w b 81 x.cells) :
    Calls Try.prog 53 #[.pointer (some ⟨b, 0, none⟩)] w fun e w' => e = .returned (.tuple #[]) ∧ obj w' b 81 x.fast.cells ∧ w.grownBy w' (some b) := by
  have HOK := Lib.hid hok
  have HX := Lib.hid hx
  clear hx hok
  go_enter Try.func53, Try.ntmps53
  go_wp2_with fail
  refine (lower_any x HOK.out b _ HX.out).mono ?_
  rintro e w1 ⟨rfl, o1, g1⟩
  have O1 := Lib.hid o1
  have G1 := Lib.hid g1
  have q0 := o1.cell 0 rfl
  have q2 := o1.cell 2 rfl
  have q3 := o1.cell 3 rfl
  have qf := o1.free 2
  clear o1 g1
  go_wp2_with fail
  go_region
  go_end0
  refine ⟨rfl, ?_, only_trans G1.out (by repeat (first | exact only_refl _ _ | apply only_drew | apply only_drewN | apply only_set))⟩
  refine obj_val (O1.out.set 2 _).drew ?_
  simp [WS.cells, WS.lower, WS.fast, List.set]
  omega

set_option maxHeartbeats 2000000 in
theorem fast_ref (x : WS) {p : Int} (hok : x.ok p) (b : Nat) (w : World) (hx : obj w b 85 x.cells) :
    Calls Try.prog 60 #[.pointer (some ⟨b, 0, none⟩)] w fun e w' => e = .returned (.tuple #[]) ∧ obj w' b 85 x.fast.cells ∧ w.grownBy w' (some b) := by
  obtain ⟨mt, mo, si, th, pa⟩ := x
  obtain ⟨k1, k2, k3, k4, k5, k6, k7, k8, k9, k10⟩ := hok
  simp only at k1 k2 k3 k4 k5 k6 k7 k8 k9 k10
  have c0 := hx.cell 0 rfl
  have c2 := hx.cell 2 rfl
  have c3 := hx.cell 3 rfl
  have c4 := hx.cell 4 rfl
  have f2 := hx.free 2
  have f3 := hx.free 3
  have f4 := hx.free 4
  simp only at c0 c2 c3 c4
  have H := Lib.hid hx
  clear hx
  by_cases hm : si / 2 < 4 * mt
  all_goals go_enter Try.func60, Try.ntmps60
  all_goals go_wp2
  all_goals go_region
  all_goals go_wp2
  all_goals go_region
  all_goals go_wp2
  all_goals go_end0
  all_goals refine ⟨rfl, ?_, by repeat (first | exact only_refl _ _ | apply only_drew | apply only_drewN | apply only_set)⟩
  all_goals refine obj_val ((((H.out.set 3 _).set 2 _).set 4 _).drew) ?_
  all_goals simp [WS.cells, WS.fast, List.set]
  all_goals omega

set_option maxHeartbeats 2000000 in
theorem timeout_any (x : WS) {p : Int} (hok : x.ok p) (b : Nat) (w : World) (hx : obj w b 81 x.cells) :
    Calls Try.prog 38 #[.pointer (some ⟨b, 0, none⟩)] w fun e w' => e = .returned (.tuple #[]) ∧ obj w' b 81 x.timeout.cells ∧ w.grownBy w' (some b) := by
  have HOK := Lib.hid hok
  have HX := Lib.hid hx
  clear hx hok
  go_enter Try.func38, Try.ntmps38
  go_wp2_with fail
  refine (lower_any x HOK.out b _ HX.out).mono ?_
  rintro e w1 ⟨rfl, o1, g1⟩
  have O1 := Lib.hid o1
  have G1 := Lib.hid g1
  have q0 := o1.cell 0 rfl
  have q2 := o1.cell 2 rfl
  have q3 := o1.cell 3 rfl
  have qf := o1.free 2
  clear o1 g1
  go_wp2_with fail
  go_end0
  refine ⟨rfl, ?_, only_trans G1.out (by repeat (first | exact only_refl _ _ | apply only_drew | apply only_drewN | apply only_set))⟩
  refine obj_val (O1.out.set 2 _).drew ?_
  simp [WS.cells, WS.lower, WS.timeout, List.set]

set_option maxHeartbeats 2000000 in
theorem timeout_ref (x : WS) {p : Int} (hok : x.ok p) (b : Nat) (w : World) (hx : obj w b 85 x.cells) :
    Calls Try.prog 61 #[.pointer (some ⟨b, 0, none⟩)] w fun e w' => e = .returned (.tuple #[]) ∧ obj w' b 85 x.timeout.cells ∧ w.grownBy w' (some b) := by
  obtain ⟨mt, mo, si, th, pa⟩ := x
  obtain ⟨k1, k2, k3, k4, k5, k6, k7, k8, k9, k10⟩ := hok
  simp only at k1 k2 k3 k4 k5 k6 k7 k8 k9 k10
  have c0 := hx.cell 0 rfl
  have c2 := hx.cell 2 rfl
  have c3 := hx.cell 3 rfl
  have c4 := hx.cell 4 rfl
  have f2 := hx.free 2
  have f3 := hx.free 3
  have f4 := hx.free 4
  simp only at c0 c2 c3 c4
  have H := Lib.hid hx
  clear hx
  by_cases hm : si / 2 < 4 * mt
  all_goals go_enter Try.func61, Try.ntmps61
  all_goals go_wp2
  all_goals go_region
  all_goals go_wp2
  all_goals go_end0
  all_goals refine ⟨rfl, ?_, by repeat (first | exact only_refl _ _ | apply only_drew | apply only_drewN | apply only_set)⟩
  all_goals refine obj_val ((((H.out.set 3 _).set 2 _).set 4 _).drew) ?_
  all_goals simp [WS.cells, WS.timeout, List.set]
  all_goals omega
end Go.Proofs.Ytfboihbanehgcaa
