/- Acked of the reference's window. Conditions as in the others. -/
import Derived.Test.YtfboihbanehgcaaWinMore
namespace Go.Proofs.Ytfboihbanehgcaa
open Go.RowKit
set_option linter.unusedVariables false
set_option linter.unusedSimpArgs false

/-- What stands in memory ahead of the last line of Acked. -/
def Grew (w : World) (b : Nat) (T : TypeId) (g : WS) (w' : World) : Prop := obj w' b T g.cells ∧ w.grownBy w' (some b)

set_option maxRecDepth 100000 in
set_option maxHeartbeats 4000000 in
theorem acked_ref (x : WS) {p : Int} (hok : x.ok p) (hp : p ≤ 1000000000000) (b : Nat) (n : Int) (hn : 1 ≤ n) (hn2 : n ≤ 9223372036854775807) (full : Bool) (w : World) (hx : obj w b 85 x.cells) :
    Calls Try.prog 59 #[.pointer (some ⟨b, 0, none⟩), .int .i64 n, .bool full] w fun e w' => e = .returned (.tuple #[]) ∧ obj w' b 85 (x.acked n full).cells ∧ w.grownBy w' (some b) := by
  have HA := Lib.hid (show x.acked n full = (x.grow n full).cap by unfold WS.acked; exact if_neg (by omega))
  obtain ⟨mt, mo, si, th, pa⟩ := x
  obtain ⟨k1, k2, k3, k4, k5, k6, k7, k8, k9, k10⟩ := hok
  simp only at k1 k2 k3 k4 k5 k6 k7 k8 k9 k10
  have c0 := hx.cell 0 rfl
  have c1 := hx.cell 1 rfl
  have c2 := hx.cell 2 rfl
  have c3 := hx.cell 3 rfl
  have c4 := hx.cell 4 rfl
  have f2 := hx.free 2
  have f4 := hx.free 4
  simp only at c0 c1 c2 c3 c4
  have H := Lib.hid hx
  clear hx
  obtain ⟨gx, hgx⟩ : ∃ gx, gx = WS.grow ⟨mt, mo, si, th, pa⟩ n full := ⟨_, rfl⟩
  have HGX := Lib.hid hgx
  clear hgx
  by_cases hs : si ≤ th
  · have X : True := trivial
    have d1 : decide (si ≤ th) = true := by simp; omega
    go_enter Try.func59, Try.ntmps59
    go_wp2
    go_quiet (fail)
    go_upto_if 20 with (fail)
    go_cut [] (fun wc => Grew w b 85 gx wc)
    case first =>
      cases full
      · have e : gx = ⟨mt, mo, si, th, pa⟩ := by
          rw [HGX.out]; unfold WS.grow; simp only; rw [if_neg (by omega)]; simp [WS.slow]
        have E := Lib.hid e
        clear e
        go_wp2_with fail
        go_meet
        refine ⟨?_, by repeat (first | exact only_refl _ _ | apply only_drew | apply only_drewN | apply only_set)⟩
        rw [E.out]
        exact H.out
      · by_cases hm : mt < n
        · have e : gx = ⟨mt, mo, si + mt, th, pa⟩ := by
            rw [HGX.out]; unfold WS.grow; simp only; rw [if_neg (by omega)]; simp [WS.slow]; omega
          have E := Lib.hid e
          clear e
          go_wp2
          go_region
          go_wp2_with fail
          go_meet
          refine ⟨?_, by repeat (first | exact only_refl _ _ | apply only_drew | apply only_drewN | apply only_set)⟩
          rw [E.out]
          exact H.out.set 2 (.int .i64 (si + mt))
        · have e : gx = ⟨mt, mo, si + n, th, pa⟩ := by
            rw [HGX.out]; unfold WS.grow; simp only; rw [if_neg (by omega)]; simp [WS.slow]; omega
          have E := Lib.hid e
          clear e
          go_wp2
          go_region
          go_wp2_with fail
          go_meet
          refine ⟨?_, by repeat (first | exact only_refl _ _ | apply only_drew | apply only_drewN | apply only_set)⟩
          rw [E.out]
          exact H.out.set 2 (.int .i64 (si + n))
    case rest =>
      obtain ⟨o1, g1⟩ := hcut
      have O1 := Lib.hid o1
      have G1 := Lib.hid g1
      have q1 := o1.cell 1 rfl
      have q2 := o1.cell 2 rfl
      have qf := o1.free 2
      clear o1 g1 c0 c1 c2 c3 c4 f2 f4
      go_wp2_with fail
      go_region
      go_end0
      refine ⟨rfl, ?_, only_trans G1.out (by repeat (first | exact only_refl _ _ | apply only_drew | apply only_drewN | apply only_set))⟩
      rw [HA.out, ← HGX.out]
      refine obj_val (O1.out.set 2 _).drew ?_
      simp [WS.cells, WS.cap, List.set]
      omega
  · have X : True := trivial
    have d1 : decide (si ≤ th) = false := by simp; omega
    go_enter Try.func59, Try.ntmps59
    go_wp2
    go_quiet (fail)
    go_upto_if 20 with (fail)
    go_cut [] (fun wc => Grew w b 85 gx wc)
    case first =>
      by_cases hm : mo < n
      · have hmin : min n mo = mo := by omega
        have b1 : 1 ≤ mo ∧ mo ≤ 16777216 := by omega
        have e0 : gx = WS.avoid ⟨mt, mo, si, th, pa⟩ n full := by rw [HGX.out]; unfold WS.grow; simp only; exact if_pos (by omega)
        cases full
        · have e : gx = ⟨mt, mo, si, th, pa + mo⟩ := by
            rw [e0]; unfold WS.avoid; simp only; rw [hmin, if_neg (fun h => Bool.noConfusion h.1)]
          have E := Lib.hid e
          clear e e0 hmin
          go_wp2
          go_region
          go_wp2
          go_quiet (fail)
          go_wp2_with fail
          go_meet
          refine ⟨?_, by repeat (first | exact only_refl _ _ | apply only_drew | apply only_drewN | apply only_set)⟩
          rw [E.out]
          exact H.out.set 4 (.int .i64 (pa + mo))
        · by_cases hs2 : si ≤ pa + mo
          · have e : gx = ⟨mt, mo, si + mt, th, pa + mo - si⟩ := by
              rw [e0]; unfold WS.avoid; simp only; rw [hmin]; exact if_pos ⟨trivial, hs2⟩
            have E := Lib.hid e
            clear e e0 hmin
            have d2 : decide (si ≤ pa + mo) = true := by simpa using hs2
            go_wp2
            go_region
            go_wp2
            go_quiet (fail)
            go_wp2
            go_region
            go_wp2
            go_region
            go_wp2_with fail
            go_meet
            refine ⟨?_, by repeat (first | exact only_refl _ _ | apply only_drew | apply only_drewN | apply only_set)⟩
            rw [E.out]
            exact ((H.out.set 4 (.int .i64 (pa + mo))).set 4 (.int .i64 (pa + mo - si))).set 2 (.int .i64 (si + mt))
          · omega
      · have hmin : min n mo = n := by omega
        have b1 : 1 ≤ n ∧ n ≤ 16777216 := by omega
        have e0 : gx = WS.avoid ⟨mt, mo, si, th, pa⟩ n full := by rw [HGX.out]; unfold WS.grow; simp only; exact if_pos (by omega)
        cases full
        · have e : gx = ⟨mt, mo, si, th, pa + n⟩ := by
            rw [e0]; unfold WS.avoid; simp only; rw [hmin, if_neg (fun h => Bool.noConfusion h.1)]
          have E := Lib.hid e
          clear e e0 hmin
          go_wp2
          go_region
          go_wp2
          go_quiet (fail)
          go_wp2_with fail
          go_meet
          refine ⟨?_, by repeat (first | exact only_refl _ _ | apply only_drew | apply only_drewN | apply only_set)⟩
          rw [E.out]
          exact H.out.set 4 (.int .i64 (pa + n))
        · by_cases hs2 : si ≤ pa + n
          · have e : gx = ⟨mt, mo, si + mt, th, pa + n - si⟩ := by
              rw [e0]; unfold WS.avoid; simp only; rw [hmin]; exact if_pos ⟨trivial, hs2⟩
            have E := Lib.hid e
            clear e e0 hmin
            have d2 : decide (si ≤ pa + n) = true := by simpa using hs2
            go_wp2
            go_region
            go_wp2
            go_quiet (fail)
            go_wp2
            go_region
            go_wp2
            go_region
            go_wp2_with fail
            go_meet
            refine ⟨?_, by repeat (first | exact only_refl _ _ | apply only_drew | apply only_drewN | apply only_set)⟩
            rw [E.out]
            exact ((H.out.set 4 (.int .i64 (pa + n))).set 4 (.int .i64 (pa + n - si))).set 2 (.int .i64 (si + mt))
          · have e : gx = ⟨mt, mo, si, th, pa + n⟩ := by
              rw [e0]; unfold WS.avoid; simp only; rw [hmin]; exact if_neg (fun h => hs2 h.2)
            have E := Lib.hid e
            clear e e0 hmin
            have d2 : decide (si ≤ pa + n) = false := by simpa using hs2
            go_wp2
            go_region
            go_wp2
            go_quiet (fail)
            go_wp2_with fail
            go_meet
            refine ⟨?_, by repeat (first | exact only_refl _ _ | apply only_drew | apply only_drewN | apply only_set)⟩
            rw [E.out]
            exact H.out.set 4 (.int .i64 (pa + n))
    case rest =>
      obtain ⟨o1, g1⟩ := hcut
      have O1 := Lib.hid o1
      have G1 := Lib.hid g1
      have q1 := o1.cell 1 rfl
      have q2 := o1.cell 2 rfl
      have qf := o1.free 2
      clear o1 g1 c0 c1 c2 c3 c4 f2 f4
      go_wp2_with fail
      go_region
      go_end0
      refine ⟨rfl, ?_, only_trans G1.out (by repeat (first | exact only_refl _ _ | apply only_drew | apply only_drewN | apply only_set))⟩
      rw [HA.out, ← HGX.out]
      refine obj_val (O1.out.set 2 _).drew ?_
      simp [WS.cells, WS.cap, List.set]
      omega
end Go.Proofs.Ytfboihbanehgcaa
