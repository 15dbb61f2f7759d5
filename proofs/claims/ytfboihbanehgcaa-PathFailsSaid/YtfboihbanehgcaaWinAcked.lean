/- The window's writing methods. Conditions as in the others. -/
import Derived.Test.YtfboihbanehgcaaWinFns
namespace Go.Proofs.Ytfboihbanehgcaa
open Go.RowKit
set_option linter.unusedVariables false
set_option linter.unusedSimpArgs false
set_option maxHeartbeats 400000 in
theorem size_any_nil (w : World) :
    Calls Try.prog 29 #[.pointer none] w fun e w' => e = .returned (.int .i64 0) ∧ w = w' := by
  go_enter Try.func29, Try.ntmps29
  go_wp2
  go_ret
  exact ⟨rfl, rfl⟩

set_option maxHeartbeats 400000 in
theorem fast_any_nil (w : World) :
    Calls Try.prog 53 #[.pointer none] w fun e w' => e = .returned (.tuple #[]) ∧ w = w' := by
  go_enter Try.func53, Try.ntmps53
  go_wp2
  go_returns
  exact ⟨rfl, rfl⟩

set_option maxHeartbeats 400000 in
theorem timeout_any_nil (w : World) :
    Calls Try.prog 38 #[.pointer none] w fun e w' => e = .returned (.tuple #[]) ∧ w = w' := by
  go_enter Try.func38, Try.ntmps38
  go_wp2
  go_returns
  exact ⟨rfl, rfl⟩

set_option maxHeartbeats 400000 in
theorem acked_any_nil (n : Int) (full : Bool) (w : World) :
    Calls Try.prog 52 #[.pointer none, .int .i64 n, .bool full] w fun e w' => e = .returned (.tuple #[]) ∧ w = w' := by
  go_enter Try.func52, Try.ntmps52
  go_wp2
  go_returns
  exact ⟨rfl, rfl⟩

set_option maxHeartbeats 400000 in
theorem acked_any_small (b : Nat) (n : Int) (hn : n < 1) (full : Bool) (w : World) :
    Calls Try.prog 52 #[.pointer (some ⟨b, 0, none⟩), .int .i64 n, .bool full] w fun e w' => e = .returned (.tuple #[]) ∧ w = w' := by
  go_enter Try.func52, Try.ntmps52
  go_wp2
  go_returns
  exact ⟨rfl, rfl⟩

set_option maxHeartbeats 400000 in
theorem size_ref_nil (w : World) :
    Calls Try.prog 55 #[.pointer none] w fun e w' => e = .returned (.int .i64 0) ∧ w = w' := by
  go_enter Try.func55, Try.ntmps55
  go_wp2
  go_ret
  exact ⟨rfl, rfl⟩

set_option maxHeartbeats 400000 in
theorem fast_ref_nil (w : World) :
    Calls Try.prog 60 #[.pointer none] w fun e w' => e = .returned (.tuple #[]) ∧ w = w' := by
  go_enter Try.func60, Try.ntmps60
  go_wp2
  go_returns
  exact ⟨rfl, rfl⟩

set_option maxHeartbeats 400000 in
theorem timeout_ref_nil (w : World) :
    Calls Try.prog 61 #[.pointer none] w fun e w' => e = .returned (.tuple #[]) ∧ w = w' := by
  go_enter Try.func61, Try.ntmps61
  go_wp2
  go_returns
  exact ⟨rfl, rfl⟩

set_option maxHeartbeats 400000 in
theorem acked_ref_nil (n : Int) (full : Bool) (w : World) :
    Calls Try.prog 59 #[.pointer none, .int .i64 n, .bool full] w fun e w' => e = .returned (.tuple #[]) ∧ w = w' := by
  go_enter Try.func59, Try.ntmps59
  go_wp2
  go_returns
  exact ⟨rfl, rfl⟩

set_option maxHeartbeats 400000 in
theorem acked_ref_small (b : Nat) (n : Int) (hn : n < 1) (full : Bool) (w : World) :
    Calls Try.prog 59 #[.pointer (some ⟨b, 0, none⟩), .int .i64 n, .bool full] w fun e w' => e = .returned (.tuple #[]) ∧ w = w' := by
  go_enter Try.func59, Try.ntmps59
  go_wp2
  go_returns
  exact ⟨rfl, rfl⟩

set_option maxHeartbeats 1000000 in
theorem slow_any (x : WS) {p : Int} (hok : x.ok p) (hp : p ≤ 1000000000000) (b : Nat) (n : Int) (hn : 1 ≤ n) (hn2 : n ≤ 9223372036854775807) (full : Bool) (w : World) (hx : obj w b 81 x.cells) :
    Calls Try.prog 63 #[.pointer (some ⟨b, 0, none⟩), .int .i64 n, .bool full] w fun e w' => e = .returned (.tuple #[]) ∧ obj w' b 81 (x.slow n full).cells ∧ w.grownBy w' (some b) := by
  obtain ⟨mt, mo, si, th, pa⟩ := x
  obtain ⟨k1, k2, k3, k4, k5, k6, k7, k8, k9, k10⟩ := hok
  simp only at k1 k2 k3 k4 k5 k6 k7 k8 k9 k10
  have c0 := hx.cell 0 rfl
  have c2 := hx.cell 2 rfl
  have f2 := hx.free 2
  simp only at c0 c2
  have H := Lib.hid hx
  clear hx
  cases full
  · go_enter Try.func63, Try.ntmps63
    go_wp2
    go_end0
    exact ⟨rfl, H.out, only_refl _ _⟩
  · by_cases hm : mt < n
    all_goals go_enter Try.func63, Try.ntmps63
    all_goals go_wp2
    all_goals go_region
    all_goals go_end0
    all_goals refine ⟨rfl, ?_, by repeat (first | exact only_refl _ _ | apply only_drew | apply only_drewN | apply only_set)⟩
    all_goals refine obj_val (H.out.set 2 _).drew ?_
    all_goals simp [WS.cells, WS.slow, List.set]
    all_goals omega

/-- What stands in memory behind 'the part grows'. -/
def Parted (w : World) (b : Nat) (T : TypeId) (x : WS) (n : Int) (w' : World) : Prop :=
  obj w' b T (WS.cells ⟨x.mtu, x.most, x.size, x.thresh, x.part + min n x.most⟩) ∧ w.grownBy w' (some b)

set_option maxRecDepth 100000 in
set_option maxHeartbeats 2000000 in
theorem avoid_any (x : WS) {p : Int} (hok : x.ok p) (hp : p ≤ 1000000000000) (b : Nat) (n : Int) (hn : 1 ≤ n) (hn2 : n ≤ 9223372036854775807) (full : Bool) (w : World) (hx : obj w b 81 x.cells) :
    Calls Try.prog 64 #[.pointer (some ⟨b, 0, none⟩), .int .i64 n, .bool full] w fun e w' => e = .returned (.tuple #[]) ∧ obj w' b 81 (x.avoid n full).cells ∧ w.grownBy w' (some b) := by
  obtain ⟨mt, mo, si, th, pa⟩ := x
  obtain ⟨k1, k2, k3, k4, k5, k6, k7, k8, k9, k10⟩ := hok
  simp only at k1 k2 k3 k4 k5 k6 k7 k8 k9 k10
  have c0 := hx.cell 0 rfl
  have c1 := hx.cell 1 rfl
  have c2 := hx.cell 2 rfl
  have c4 := hx.cell 4 rfl
  have f2 := hx.free 2
  have f4 := hx.free 4
  simp only at c0 c1 c2 c4
  have H := Lib.hid hx
  clear hx
  by_cases hm : mo < n
  · have hmin : min n mo = mo := by omega
    have b1 : 1 ≤ mo ∧ mo ≤ 16777216 := by omega
    cases full
    · have e : WS.avoid ⟨mt, mo, si, th, pa⟩ n false = ⟨mt, mo, si, th, pa + mo⟩ := by
        unfold WS.avoid; simp only; rw [hmin, if_neg (fun h => Bool.noConfusion h.1)]
      have E := Lib.hid e
      clear e hmin
      go_enter Try.func64, Try.ntmps64
      go_wp2
      go_region
      go_wp2
      go_quiet (fail)
      go_wp2
      go_end0
      refine ⟨rfl, ?_, by repeat (first | exact only_refl _ _ | apply only_drew | apply only_drewN | apply only_set)⟩
      rw [E.out]
      exact H.out.set 4 (.int .i64 (pa + mo))
    · by_cases hs : si ≤ pa + mo
      · have e : WS.avoid ⟨mt, mo, si, th, pa⟩ n true = ⟨mt, mo, si + mt, th, pa + mo - si⟩ := by
          unfold WS.avoid; simp only; rw [hmin]; exact if_pos ⟨trivial, hs⟩
        have E := Lib.hid e
        clear e hmin
        have d1 : decide (si ≤ pa + mo) = true := by simpa using hs
        go_enter Try.func64, Try.ntmps64
        go_wp2
        go_region
        go_wp2
        go_quiet (fail)
        go_wp2
        go_region
        go_wp2
        go_region
        go_end0
        refine ⟨rfl, ?_, by repeat (first | exact only_refl _ _ | apply only_drew | apply only_drewN | apply only_set)⟩
        rw [E.out]
        exact ((H.out.set 4 (.int .i64 (pa + mo))).set 4 (.int .i64 (pa + mo - si))).set 2 (.int .i64 (si + mt))
      · omega
  · have hmin : min n mo = n := by omega
    have b1 : 1 ≤ n ∧ n ≤ 16777216 := by omega
    cases full
    · have e : WS.avoid ⟨mt, mo, si, th, pa⟩ n false = ⟨mt, mo, si, th, pa + n⟩ := by
        unfold WS.avoid; simp only; rw [hmin, if_neg (fun h => Bool.noConfusion h.1)]
      have E := Lib.hid e
      clear e hmin
      go_enter Try.func64, Try.ntmps64
      go_wp2
      go_region
      go_wp2
      go_quiet (fail)
      go_wp2
      go_end0
      refine ⟨rfl, ?_, by repeat (first | exact only_refl _ _ | apply only_drew | apply only_drewN | apply only_set)⟩
      rw [E.out]
      exact H.out.set 4 (.int .i64 (pa + n))
    · by_cases hs : si ≤ pa + n
      · have e : WS.avoid ⟨mt, mo, si, th, pa⟩ n true = ⟨mt, mo, si + mt, th, pa + n - si⟩ := by
          unfold WS.avoid; simp only; rw [hmin]; exact if_pos ⟨trivial, hs⟩
        have E := Lib.hid e
        clear e hmin
        have d1 : decide (si ≤ pa + n) = true := by simpa using hs
        go_enter Try.func64, Try.ntmps64
        go_wp2
        go_region
        go_wp2
        go_quiet (fail)
        go_wp2
        go_region
        go_wp2
        go_region
        go_end0
        refine ⟨rfl, ?_, by repeat (first | exact only_refl _ _ | apply only_drew | apply only_drewN | apply only_set)⟩
        rw [E.out]
        exact ((H.out.set 4 (.int .i64 (pa + n))).set 4 (.int .i64 (pa + n - si))).set 2 (.int .i64 (si + mt))
      · have e : WS.avoid ⟨mt, mo, si, th, pa⟩ n true = ⟨mt, mo, si, th, pa + n⟩ := by
          unfold WS.avoid; simp only; rw [hmin]; exact if_neg (fun h => hs h.2)
        have E := Lib.hid e
        clear e hmin
        have d1 : decide (si ≤ pa + n) = false := by simpa using hs
        go_enter Try.func64, Try.ntmps64
        go_wp2
        go_region
        go_wp2
        go_quiet (fail)
        go_wp2
        go_end0
        refine ⟨rfl, ?_, by repeat (first | exact only_refl _ _ | apply only_drew | apply only_drewN | apply only_set)⟩
        rw [E.out]
        exact H.out.set 4 (.int .i64 (pa + n))

set_option maxHeartbeats 1000000 in
theorem lower_any (x : WS) {p : Int} (hok : x.ok p) (b : Nat) (w : World) (hx : obj w b 81 x.cells) :
    Calls Try.prog 56 #[.pointer (some ⟨b, 0, none⟩)] w fun e w' => e = .returned (.tuple #[]) ∧ obj w' b 81 x.lower.cells ∧ w.grownBy w' (some b) := by
  obtain ⟨mt, mo, si, th, pa⟩ := x
  obtain ⟨k1, k2, k3, k4, k5, k6, k7, k8, k9, k10⟩ := hok
  simp only at k1 k2 k3 k4 k5 k6 k7 k8 k9 k10
  have c0 := hx.cell 0 rfl
  have c2 := hx.cell 2 rfl
  have c3 := hx.cell 3 rfl
  have c4 := hx.cell 4 rfl
  have f3 := hx.free 3
  have f4 := hx.free 4
  simp only at c0 c2 c3 c4
  have H := Lib.hid hx
  clear hx
  by_cases hm : si / 2 < 4 * mt
  all_goals go_enter Try.func56, Try.ntmps56
  all_goals go_wp2
  all_goals go_region
  all_goals go_wp2
  all_goals go_end0
  all_goals refine ⟨rfl, ?_, by repeat (first | exact only_refl _ _ | apply only_drew | apply only_drewN | apply only_set)⟩
  all_goals refine obj_val ((H.out.set 3 _).set 4 _).drew ?_
  all_goals simp [WS.cells, WS.lower, List.set]
  all_goals omega
end Go.Proofs.Ytfboihbanehgcaa
