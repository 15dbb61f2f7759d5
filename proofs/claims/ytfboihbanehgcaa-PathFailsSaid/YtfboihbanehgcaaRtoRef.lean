/- The reference's Sample. Conditions as in the estimator's. -/
import Derived.Test.YtfboihbanehgcaaRtoFns
import Derived.Deep.RegionWith
import Derived.Deep.RegionHeld3
import Derived.Deep.DeepCutAuto
namespace Go.Proofs.Ytfboihbanehgcaa
open Go.RowKit
set_option linter.unusedVariables false
set_option linter.unusedSimpArgs false

set_option maxRecDepth 100000 in
set_option maxHeartbeats 2000000 in
theorem sample_ref (x : RS) (hok : x.ok) (b : Nat) (t : Int) (ht : 0 ≤ t) (ht2 : t ≤ 9223372036854775807) (w : World) (hx : obj w b 83 x.cells) :
    Calls Try.prog 58 #[.pointer (some ⟨b, 0, none⟩), .int .i64 t] w fun e w' => e = .returned (.int .i64 0) ∧ obj w' b 83 (x.sample t).cells ∧ w.grownBy w' (some b) := by
  have e1 := ns_bd hok ht
  have e2 := ny_bd hok ht
  obtain ⟨v, l, m, an, s, y⟩ := x
  obtain ⟨k1, k2, k3, k4, k5, k6, k7, k8, k9⟩ := hok
  simp only at k1 k2 k3 k4 k5 k6 k7 k8 k9
  have c3 := hx.cell 3 rfl
  have c4 := hx.cell 4 rfl
  have c5 := hx.cell 5 rfl
  have f3 := hx.free 3
  have f4 := hx.free 4
  have f5 := hx.free 5
  simp only at c3 c4 c5
  have H := Lib.hid hx
  clear hx
  by_cases h1 : 1048576 < t
  · go_enter Try.func58, Try.ntmps58
    go_upto_if 16 with (fail)
    go_cut [] (fun wc => Sampled w b 83 ⟨v, l, m, an, s, y⟩ t wc)
    case first =>
      cases an
      · go_wp2
        go_meet
        refine ⟨?_, by repeat (first | exact only_refl _ _ | apply only_drew | apply only_set)⟩
        have e : ns ⟨v, l, m, false, s, y⟩ t = 8 * 1048576 ∧ ny ⟨v, l, m, false, s, y⟩ t = 2 * 1048576 := by simp [ns, ny]; omega
        rw [e.1, e.2]
        exact ((H.out.set 3 (.bool true)).set 4 (.int .i64 (8 * 1048576))).set 5 (.int .i64 (2 * 1048576))
      · have e : ns ⟨v, l, m, true, s, y⟩ t = s - s / 8 + 1048576 := by simp [ns]; omega
        have E := Lib.hid e
        clear e
        by_cases h2 : s / 8 - 1048576 < 0
        · have e : ny ⟨v, l, m, true, s, y⟩ t = y - y / 4 + -(s / 8 - 1048576) := by simp [ny]; omega
          have F := Lib.hid e
          clear e
          go_wp2
          go_region
          go_wp2
          go_region
          go_wp2_with fail
          go_meet
          refine ⟨?_, by repeat (first | exact only_refl _ _ | apply only_drew | apply only_set)⟩
          rw [E.out, F.out]
          exact (H.out.set 5 (.int .i64 (y - y / 4 + -(s / 8 - 1048576)))).set 4 (.int .i64 (s - s / 8 + 1048576))
        · have e : ny ⟨v, l, m, true, s, y⟩ t = y - y / 4 + (s / 8 - 1048576) := by simp [ny]; omega
          have F := Lib.hid e
          clear e
          go_wp2
          go_region
          go_wp2
          go_region
          go_wp2_with fail
          go_meet
          refine ⟨?_, by repeat (first | exact only_refl _ _ | apply only_drew | apply only_set)⟩
          rw [E.out, F.out]
          exact (H.out.set 5 (.int .i64 (y - y / 4 + (s / 8 - 1048576)))).set 4 (.int .i64 (s - s / 8 + 1048576))
    case rest =>
      obtain ⟨ho, hg⟩ := hcut
      simp only at ho e1 e2
      generalize hN : ns ⟨v, l, m, an, s, y⟩ t = N at *
      generalize hY : ny ⟨v, l, m, an, s, y⟩ t = Y at *
      have EN := Lib.hid hN
      have EY := Lib.hid hY
      have d0 := ho.cell 0 rfl
      have d1 := ho.cell 1 rfl
      have d2 := ho.cell 2 rfl
      have d4 := ho.cell 4 rfl
      have d5 := ho.cell 5 rfl
      have g0 := ho.free 0
      have HO := Lib.hid ho
      have HG := Lib.hid hg
      clear ho hg c3 c4 c5 f3 f4 f5 H hN hY
      by_cases hm : 1 < Y
      · have e : RS.sample ⟨v, l, m, an, s, y⟩ t = ⟨clamp (N / 8 + Y) l m, l, m, true, N, Y⟩ := by
          unfold RS.sample; rw [EN.out, EY.out, show max 1 Y = Y by omega]
        have EE := Lib.hid e
        clear e
        go_wp2
        go_region
        go_wp2
        go_region
        go_wp2
        all_goals go_ret
        all_goals refine ⟨rfl, ?_, only_trans HG.out (by repeat (first | exact only_refl _ _ | apply only_drew | apply only_set))⟩
        all_goals rw [EE.out]
        all_goals refine obj_val (((HO.out.set 0 (.int .i64 (N / 8 + Y))).set 0 _).drew.drew) ?_
        all_goals simp [RS.cells, clamp, List.set]
        all_goals omega
      · have e : RS.sample ⟨v, l, m, an, s, y⟩ t = ⟨clamp (N / 8 + 1) l m, l, m, true, N, Y⟩ := by
          unfold RS.sample; rw [EN.out, EY.out, show max 1 Y = 1 by omega]
        have EE := Lib.hid e
        clear e
        go_wp2
        go_region
        go_wp2
        go_region
        go_wp2
        all_goals go_ret
        all_goals refine ⟨rfl, ?_, only_trans HG.out (by repeat (first | exact only_refl _ _ | apply only_drew | apply only_set))⟩
        all_goals rw [EE.out]
        all_goals refine obj_val (((HO.out.set 0 (.int .i64 (N / 8 + 1))).set 0 _).drew.drew) ?_
        all_goals simp [RS.cells, clamp, List.set]
        all_goals omega
  · go_enter Try.func58, Try.ntmps58
    go_upto_if 16 with (fail)
    go_cut [] (fun wc => Sampled w b 83 ⟨v, l, m, an, s, y⟩ t wc)
    case first =>
      cases an
      · go_wp2
        go_meet
        refine ⟨?_, by repeat (first | exact only_refl _ _ | apply only_drew | apply only_set)⟩
        have e : ns ⟨v, l, m, false, s, y⟩ t = 8 * t ∧ ny ⟨v, l, m, false, s, y⟩ t = 2 * t := by simp [ns, ny]; omega
        rw [e.1, e.2]
        exact ((H.out.set 3 (.bool true)).set 4 (.int .i64 (8 * t))).set 5 (.int .i64 (2 * t))
      · have e : ns ⟨v, l, m, true, s, y⟩ t = s - s / 8 + t := by simp [ns]; omega
        have E := Lib.hid e
        clear e
        by_cases h2 : s / 8 - t < 0
        · have e : ny ⟨v, l, m, true, s, y⟩ t = y - y / 4 + -(s / 8 - t) := by simp [ny]; omega
          have F := Lib.hid e
          clear e
          go_wp2
          go_region
          go_wp2
          go_region
          go_wp2_with fail
          go_meet
          refine ⟨?_, by repeat (first | exact only_refl _ _ | apply only_drew | apply only_set)⟩
          rw [E.out, F.out]
          exact (H.out.set 5 (.int .i64 (y - y / 4 + -(s / 8 - t)))).set 4 (.int .i64 (s - s / 8 + t))
        · have e : ny ⟨v, l, m, true, s, y⟩ t = y - y / 4 + (s / 8 - t) := by simp [ny]; omega
          have F := Lib.hid e
          clear e
          go_wp2
          go_region
          go_wp2
          go_region
          go_wp2_with fail
          go_meet
          refine ⟨?_, by repeat (first | exact only_refl _ _ | apply only_drew | apply only_set)⟩
          rw [E.out, F.out]
          exact (H.out.set 5 (.int .i64 (y - y / 4 + (s / 8 - t)))).set 4 (.int .i64 (s - s / 8 + t))
    case rest =>
      obtain ⟨ho, hg⟩ := hcut
      simp only at ho e1 e2
      generalize hN : ns ⟨v, l, m, an, s, y⟩ t = N at *
      generalize hY : ny ⟨v, l, m, an, s, y⟩ t = Y at *
      have EN := Lib.hid hN
      have EY := Lib.hid hY
      have d0 := ho.cell 0 rfl
      have d1 := ho.cell 1 rfl
      have d2 := ho.cell 2 rfl
      have d4 := ho.cell 4 rfl
      have d5 := ho.cell 5 rfl
      have g0 := ho.free 0
      have HO := Lib.hid ho
      have HG := Lib.hid hg
      clear ho hg c3 c4 c5 f3 f4 f5 H hN hY
      by_cases hm : 1 < Y
      · have e : RS.sample ⟨v, l, m, an, s, y⟩ t = ⟨clamp (N / 8 + Y) l m, l, m, true, N, Y⟩ := by
          unfold RS.sample; rw [EN.out, EY.out, show max 1 Y = Y by omega]
        have EE := Lib.hid e
        clear e
        go_wp2
        go_region
        go_wp2
        go_region
        go_wp2
        all_goals go_ret
        all_goals refine ⟨rfl, ?_, only_trans HG.out (by repeat (first | exact only_refl _ _ | apply only_drew | apply only_set))⟩
        all_goals rw [EE.out]
        all_goals refine obj_val (((HO.out.set 0 (.int .i64 (N / 8 + Y))).set 0 _).drew.drew) ?_
        all_goals simp [RS.cells, clamp, List.set]
        all_goals omega
      · have e : RS.sample ⟨v, l, m, an, s, y⟩ t = ⟨clamp (N / 8 + 1) l m, l, m, true, N, Y⟩ := by
          unfold RS.sample; rw [EN.out, EY.out, show max 1 Y = 1 by omega]
        have EE := Lib.hid e
        clear e
        go_wp2
        go_region
        go_wp2
        go_region
        go_wp2
        all_goals go_ret
        all_goals refine ⟨rfl, ?_, only_trans HG.out (by repeat (first | exact only_refl _ _ | apply only_drew | apply only_set))⟩
        all_goals rw [EE.out]
        all_goals refine obj_val (((HO.out.set 0 (.int .i64 (N / 8 + 1))).set 0 _).drew.drew) ?_
        all_goals simp [RS.cells, clamp, List.set]
        all_goals omega
end Go.Proofs.Ytfboihbanehgcaa
