/- What the laws of chapter 13 do with a window; their anchor; how a list of things done comes in. Conditions: the fields' ranges. -/
import Derived.Test.YthhbdaophhidhaaWinRef
namespace Go.Proofs.Ythhbdaophhidhaa
open Go.RowKit Go.ChangeShapes Go.WideShapes Go.Deep
set_option linter.unusedVariables false
set_option linter.unusedSimpArgs false

def WS.step (x : WS) (kind n : Int) (full : Bool) : WS := if kind = 0 then x.acked n full else if kind = 1 then x.fast else if kind = 2 then x.timeout else x
theorem wok_step {x : WS} {p : Int} (h : x.ok p) (hp : 0 ≤ p) (kind n : Int) (full : Bool) : (x.step kind n full).ok (p + 16777216) := by
  unfold WS.step
  split
  · exact wok_acked h hp n full
  · split
    · exact wok_more (wok_fast h hp) (by omega)
    · split
      · exact wok_more (wok_timeout h hp) (by omega)
      · exact wok_more h (by omega)

set_option maxHeartbeats 2000000 in
theorem does_any (x : WS) {p : Int} (hok : x.ok p) (hp : p ≤ 1000000000000) (b : Nat) (kind n : Int) (hn2 : n ≤ 9223372036854775807) (full : Bool) (w : World) (hx : obj w b 45 x.cells) :
    Calls Try.prog 12 #[.pointer (some ⟨b, 0, none⟩), .agg #[.int .i64 kind, .int .i64 n, .bool full]] w fun e w' => e = .returned (.tuple #[]) ∧ obj w' b 45 (x.step kind n full).cells ∧ w.grownBy w' (some b) := by
  have HOK := Lib.hid hok
  have HX := Lib.hid (hx.alloc (.cells #[.int .i64 kind, .int .i64 n, .bool full] 33))
  have G0 := Lib.hid (only_alloc (only_refl w (some b)) (.cells #[.int .i64 kind, .int .i64 n, .bool full] 33))
  clear hx hok
  by_cases k0 : kind = 0
  · subst k0
    by_cases h1 : n < 1
    · have e : x.step 0 n full = x := by unfold WS.step WS.acked; rw [if_pos rfl, if_pos h1]
      have E := Lib.hid e
      clear e
      go_enter Try.func12, Try.ntmps12
      go_wp2_with fail
      refine (acked_any_small b n h1 full _).mono ?_
      rintro e w1 ⟨rfl, rfl⟩
      go_wp2_with fail
      go_end0
      exact ⟨rfl, by rw [E.out]; exact HX.out, G0.out⟩
    · have e : x.step 0 n full = x.acked n full := by unfold WS.step; exact if_pos rfl
      have E := Lib.hid e
      clear e
      go_enter Try.func12, Try.ntmps12
      go_wp2_with fail
      refine (acked_any x HOK.out hp b n (by omega) hn2 full _ HX.out).mono ?_
      rintro e w1 ⟨rfl, o1, g1⟩
      have O1 := Lib.hid o1
      have G1 := Lib.hid g1
      clear o1 g1
      go_wp2_with fail
      go_end0
      exact ⟨rfl, by rw [E.out]; exact O1.out, only_trans G0.out G1.out⟩
  by_cases k1 : kind = 1
  · subst k1
    have e : x.step 1 n full = x.fast := by unfold WS.step; rw [if_neg (by decide)]; exact if_pos rfl
    have E := Lib.hid e
    clear e k0
    go_enter Try.func12, Try.ntmps12
    go_wp2_with fail
    refine (fast_any x HOK.out b _ HX.out).mono ?_
    rintro e w1 ⟨rfl, o1, g1⟩
    have O1 := Lib.hid o1
    have G1 := Lib.hid g1
    clear o1 g1
    go_wp2_with fail
    go_end0
    exact ⟨rfl, by rw [E.out]; exact O1.out, only_trans G0.out G1.out⟩
  by_cases k2 : kind = 2
  · subst k2
    have e : x.step 2 n full = x.timeout := by unfold WS.step; rw [if_neg (by decide), if_neg (by decide)]; exact if_pos rfl
    have E := Lib.hid e
    clear e k0 k1
    go_enter Try.func12, Try.ntmps12
    go_wp2_with fail
    refine (timeout_any x HOK.out b _ HX.out).mono ?_
    rintro e w1 ⟨rfl, o1, g1⟩
    have O1 := Lib.hid o1
    have G1 := Lib.hid g1
    clear o1 g1
    go_wp2_with fail
    go_end0
    exact ⟨rfl, by rw [E.out]; exact O1.out, only_trans G0.out G1.out⟩
  · have e : x.step kind n full = x := by unfold WS.step; rw [if_neg k0, if_neg k1, if_neg k2]
    have E := Lib.hid e
    have z0 : (kind == 0) = false := by simpa using k0
    have z1 : (kind == 1) = false := by simpa using k1
    have z2 : (kind == 2) = false := by simpa using k2
    clear e k0 k1 k2
    go_enter Try.func12, Try.ntmps12
    go_wp2_with fail
    go_end0
    exact ⟨rfl, by rw [E.out]; exact HX.out, G0.out⟩

set_option maxHeartbeats 2000000 in
theorem does_any_nil (kind n : Int) (full : Bool) (w : World) :
    Calls Try.prog 12 #[.pointer none, .agg #[.int .i64 kind, .int .i64 n, .bool full]] w fun e w' => e = .returned (.tuple #[]) ∧ w.grownBy w' none := by
  have G0 := Lib.hid (only_alloc (only_refl w none) (.cells #[.int .i64 kind, .int .i64 n, .bool full] 33))
  by_cases k0 : kind = 0
  · subst k0
    go_enter Try.func12, Try.ntmps12
    go_wp2_with fail
    refine (acked_any_nil n full _).mono ?_
    rintro e w1 ⟨rfl, rfl⟩
    go_wp2_with fail
    go_end0
    exact ⟨rfl, G0.out⟩
  by_cases k1 : kind = 1
  · subst k1
    clear k0
    go_enter Try.func12, Try.ntmps12
    go_wp2_with fail
    refine (fast_any_nil _).mono ?_
    rintro e w1 ⟨rfl, rfl⟩
    go_wp2_with fail
    go_end0
    exact ⟨rfl, G0.out⟩
  by_cases k2 : kind = 2
  · subst k2
    clear k0 k1
    go_enter Try.func12, Try.ntmps12
    go_wp2_with fail
    refine (timeout_any_nil _).mono ?_
    rintro e w1 ⟨rfl, rfl⟩
    go_wp2_with fail
    go_end0
    exact ⟨rfl, G0.out⟩
  · have z0 : (kind == 0) = false := by simpa using k0
    have z1 : (kind == 1) = false := by simpa using k1
    have z2 : (kind == 2) = false := by simpa using k2
    clear k0 k1 k2
    go_enter Try.func12, Try.ntmps12
    go_wp2_with fail
    go_end0
    exact ⟨rfl, G0.out⟩

set_option maxHeartbeats 2000000 in
theorem does_ref (x : WS) {p : Int} (hok : x.ok p) (hp : p ≤ 1000000000000) (b : Nat) (kind n : Int) (hn2 : n ≤ 9223372036854775807) (full : Bool) (w : World) (hx : obj w b 47 x.cells) :
    Calls Try.prog 13 #[.pointer (some ⟨b, 0, none⟩), .agg #[.int .i64 kind, .int .i64 n, .bool full]] w fun e w' => e = .returned (.tuple #[]) ∧ obj w' b 47 (x.step kind n full).cells ∧ w.grownBy w' (some b) := by
  have HOK := Lib.hid hok
  have HX := Lib.hid (hx.alloc (.cells #[.int .i64 kind, .int .i64 n, .bool full] 33))
  have G0 := Lib.hid (only_alloc (only_refl w (some b)) (.cells #[.int .i64 kind, .int .i64 n, .bool full] 33))
  clear hx hok
  by_cases k0 : kind = 0
  · subst k0
    by_cases h1 : n < 1
    · have e : x.step 0 n full = x := by unfold WS.step WS.acked; rw [if_pos rfl, if_pos h1]
      have E := Lib.hid e
      clear e
      go_enter Try.func13, Try.ntmps13
      go_wp2_with fail
      refine (acked_ref_small b n h1 full _).mono ?_
      rintro e w1 ⟨rfl, rfl⟩
      go_wp2_with fail
      go_end0
      exact ⟨rfl, by rw [E.out]; exact HX.out, G0.out⟩
    · have e : x.step 0 n full = x.acked n full := by unfold WS.step; exact if_pos rfl
      have E := Lib.hid e
      clear e
      go_enter Try.func13, Try.ntmps13
      go_wp2_with fail
      refine (acked_ref x HOK.out hp b n (by omega) hn2 full _ HX.out).mono ?_
      rintro e w1 ⟨rfl, o1, g1⟩
      have O1 := Lib.hid o1
      have G1 := Lib.hid g1
      clear o1 g1
      go_wp2_with fail
      go_end0
      exact ⟨rfl, by rw [E.out]; exact O1.out, only_trans G0.out G1.out⟩
  by_cases k1 : kind = 1
  · subst k1
    have e : x.step 1 n full = x.fast := by unfold WS.step; rw [if_neg (by decide)]; exact if_pos rfl
    have E := Lib.hid e
    clear e k0
    go_enter Try.func13, Try.ntmps13
    go_wp2_with fail
    refine (fast_ref x HOK.out b _ HX.out).mono ?_
    rintro e w1 ⟨rfl, o1, g1⟩
    have O1 := Lib.hid o1
    have G1 := Lib.hid g1
    clear o1 g1
    go_wp2_with fail
    go_end0
    exact ⟨rfl, by rw [E.out]; exact O1.out, only_trans G0.out G1.out⟩
  by_cases k2 : kind = 2
  · subst k2
    have e : x.step 2 n full = x.timeout := by unfold WS.step; rw [if_neg (by decide), if_neg (by decide)]; exact if_pos rfl
    have E := Lib.hid e
    clear e k0 k1
    go_enter Try.func13, Try.ntmps13
    go_wp2_with fail
    refine (timeout_ref x HOK.out b _ HX.out).mono ?_
    rintro e w1 ⟨rfl, o1, g1⟩
    have O1 := Lib.hid o1
    have G1 := Lib.hid g1
    clear o1 g1
    go_wp2_with fail
    go_end0
    exact ⟨rfl, by rw [E.out]; exact O1.out, only_trans G0.out G1.out⟩
  · have e : x.step kind n full = x := by unfold WS.step; rw [if_neg k0, if_neg k1, if_neg k2]
    have E := Lib.hid e
    have z0 : (kind == 0) = false := by simpa using k0
    have z1 : (kind == 1) = false := by simpa using k1
    have z2 : (kind == 2) = false := by simpa using k2
    clear e k0 k1 k2
    go_enter Try.func13, Try.ntmps13
    go_wp2_with fail
    go_end0
    exact ⟨rfl, by rw [E.out]; exact HX.out, G0.out⟩

set_option maxHeartbeats 2000000 in
theorem does_ref_nil (kind n : Int) (full : Bool) (w : World) :
    Calls Try.prog 13 #[.pointer none, .agg #[.int .i64 kind, .int .i64 n, .bool full]] w fun e w' => e = .returned (.tuple #[]) ∧ w.grownBy w' none := by
  have G0 := Lib.hid (only_alloc (only_refl w none) (.cells #[.int .i64 kind, .int .i64 n, .bool full] 33))
  by_cases k0 : kind = 0
  · subst k0
    go_enter Try.func13, Try.ntmps13
    go_wp2_with fail
    refine (acked_ref_nil n full _).mono ?_
    rintro e w1 ⟨rfl, rfl⟩
    go_wp2_with fail
    go_end0
    exact ⟨rfl, G0.out⟩
  by_cases k1 : kind = 1
  · subst k1
    clear k0
    go_enter Try.func13, Try.ntmps13
    go_wp2_with fail
    refine (fast_ref_nil _).mono ?_
    rintro e w1 ⟨rfl, rfl⟩
    go_wp2_with fail
    go_end0
    exact ⟨rfl, G0.out⟩
  by_cases k2 : kind = 2
  · subst k2
    clear k0 k1
    go_enter Try.func13, Try.ntmps13
    go_wp2_with fail
    refine (timeout_ref_nil _).mono ?_
    rintro e w1 ⟨rfl, rfl⟩
    go_wp2_with fail
    go_end0
    exact ⟨rfl, G0.out⟩
  · have z0 : (kind == 0) = false := by simpa using k0
    have z1 : (kind == 1) = false := by simpa using k1
    have z2 : (kind == 2) = false := by simpa using k2
    clear k0 k1 k2
    go_enter Try.func13, Try.ntmps13
    go_wp2_with fail
    go_end0
    exact ⟨rfl, G0.out⟩
end Go.Proofs.Ythhbdaophhidhaa
