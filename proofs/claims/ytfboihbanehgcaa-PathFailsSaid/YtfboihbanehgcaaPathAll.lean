/- Each method of the path and of its reference at whatever input; without a path; what the laws do; whether both tell the same. Conditions as in the other methods'. -/
import Derived.Test.YtfboihbanehgcaaPathBeat
import Derived.Test.YtfboihbanehgcaaPathBeatR
namespace Go.Proofs.Ytfboihbanehgcaa
open Go.RowKit
set_option linter.unusedVariables false
set_option linter.unusedSimpArgs false

structure OP where
  k : Int
  n : Int
  full : Bool
  t : Int
  u : Int
def OP.val (o : OP) : Value := .agg #[.int .i64 o.k, .int .i64 o.n, .bool o.full, .int .i64 o.t, .int .i64 o.u]
def OP.ok (o : OP) : Prop := o.n ≤ 9223372036854775807 ∧ o.t ≤ 9223372036854775807 ∧ o.u ≤ 9223372036854775807
def PS.step (x : PS) (o : OP) : PS := if o.k = 0 then x.answered else if o.k = 1 then x.sample o.t else if o.k = 2 then x.withS (x.s.acked o.n o.full) else if o.k = 3 then x.withS x.s.fast else if o.k = 4 then x.timeout else if o.k = 5 then x.beat' o.t else if o.k = 6 then x.beaten o.t o.u else x
def PS.stepB (x : PS) (o : OP) : Bool := if o.k = 4 then x.timeoutB else if o.k = 5 then x.beatB o.t else if o.k = 6 then x.beatenB o.t o.u else false
theorem pok_step {x : PS} {q : Int} (h : x.ok q) (hq : 0 ≤ q) (o : OP) : (x.step o).ok (q + 16777216) := by
  unfold PS.step
  split
  · exact pok_more (pok_answered h) (by omega)
  split
  · exact pok_more (pok_sample h) (by omega)
  split
  · exact pok_withS h (wok_acked h.2.2.2.2.2.2.2.2.2 hq _ _)
  split
  · exact pok_withS h (wok_more (wok_fast h.2.2.2.2.2.2.2.2.2 hq) (by omega))
  split
  · exact pok_more (pok_timeout h hq) (by omega)
  split
  · exact pok_more (pok_beat' h) (by omega)
  split
  · exact pok_more (pok_beaten h) (by omega)
  · exact pok_more h (by omega)

theorem psample_any_all (x : PS) {q : Int} (hok : x.ok q) (t : Int) (ht : t ≤ 9223372036854775807) (p : PP) (w : World) (h : isPath w p x) :
    Calls Try.prog 30 #[.pointer (some ⟨p.b, 0, none⟩), .int .i64 t] w fun e w' => e = .returned (.tuple #[]) ∧ isPath w' p (x.sample t) ∧ turned w w' p.L := by
  by_cases hn : t < 0
  · have e : x.sample t = x := by unfold PS.sample; exact if_pos hn
    rw [e]
    exact psample_any_neg x p t hn w h
  · have e : x.sample t = x.withR (x.r.sample t) := by unfold PS.sample; exact if_neg hn
    rw [e]
    exact psample_any x p t hok.2.2.2.2.2.2.2.2.1 (by omega) ht w h
theorem pbeat_any_all (x : PS) {q : Int} (hok : x.ok q) (t : Int) (ht : t ≤ 9223372036854775807) (p : PP) (w : World) (h : isPath w p x) :
    Calls Try.prog 21 #[.pointer (some ⟨p.b, 0, none⟩), .int .i64 t] w fun e w' => e = .returned (.bool (x.beatB t)) ∧ isPath w' p (x.beat' t) ∧ turned w w' p.L := by
  by_cases hn : x.next ≤ t
  · have e : x.beat' t = x.beat1 t := by unfold PS.beat'; exact if_pos hn
    have e2 : x.beatB t = true := by unfold PS.beatB; simpa using hn
    rw [e, e2]
    exact pbeat_any_due x hok t hn ht p w h
  · have e : x.beat' t = x := by unfold PS.beat'; exact if_neg hn
    have e2 : x.beatB t = false := by unfold PS.beatB; simpa using hn
    rw [e, e2]
    refine (pbeat_any_early x t (by omega) p w h).mono ?_
    rintro e w' ⟨rfl, rfl⟩
    exact ⟨rfl, h, turned_refl _ _⟩
theorem pbeaten_any_all (x : PS) {q : Int} (hok : x.ok q) (s n : Int) (hn : n ≤ 9223372036854775807) (p : PP) (w : World) (h : isPath w p x) :
    Calls Try.prog 24 #[.pointer (some ⟨p.b, 0, none⟩), .int .i64 s, .int .i64 n] w fun e w' => e = .returned (.bool (x.beatenB s n)) ∧ isPath w' p (x.beaten s n) ∧ turned w w' p.L := by
  cases hb : x.beatenB s n
  · have e : x.beaten s n = x := by unfold PS.beaten; rw [hb]; rfl
    rw [e]
    refine (pbeaten_any_no x s n hb p w h).mono ?_
    rintro e w' ⟨rfl, rfl⟩
    exact ⟨rfl, h, turned_refl _ _⟩
  · have e : x.beaten s n = x.answered.sample (n - s) := by unfold PS.beaten; rw [hb]; rfl
    rw [e]
    exact pbeaten_any_yes x hok s n hb hn p w h

set_option maxHeartbeats 400000 in
theorem answered_nil (w : World) : Calls Try.prog 19 #[.pointer none] w fun e w' => e = .returned (.tuple #[]) ∧ w = w' := by
  go_enter Try.func19, Try.ntmps19
  go_wp2_with fail
  refine (of_nil _).mono ?_
  rintro e w' ⟨rfl, rfl⟩
  go_wp2_with fail
  go_end0
  exact ⟨rfl, rfl⟩
set_option maxHeartbeats 400000 in
theorem psample_nil (t : Int) (w : World) : Calls Try.prog 30 #[.pointer none, .int .i64 t] w fun e w' => e = .returned (.tuple #[]) ∧ w = w' := by
  go_enter Try.func30, Try.ntmps30
  go_wp2_with fail
  refine (of_nil _).mono ?_
  rintro e w' ⟨rfl, rfl⟩
  go_wp2_with fail
  go_end0
  exact ⟨rfl, rfl⟩
set_option maxHeartbeats 400000 in
theorem packed_nil (n : Int) (full : Bool) (w : World) : Calls Try.prog 31 #[.pointer none, .int .i64 n, .bool full] w fun e w' => e = .returned (.tuple #[]) ∧ w = w' := by
  go_enter Try.func31, Try.ntmps31
  go_wp2_with fail
  refine (of_nil _).mono ?_
  rintro e w' ⟨rfl, rfl⟩
  go_wp2_with fail
  go_end0
  exact ⟨rfl, rfl⟩
set_option maxHeartbeats 400000 in
theorem pfast_nil (w : World) : Calls Try.prog 32 #[.pointer none] w fun e w' => e = .returned (.tuple #[]) ∧ w = w' := by
  go_enter Try.func32, Try.ntmps32
  go_wp2_with fail
  refine (of_nil _).mono ?_
  rintro e w' ⟨rfl, rfl⟩
  go_wp2_with fail
  go_end0
  exact ⟨rfl, rfl⟩
set_option maxHeartbeats 400000 in
theorem ptimeout_nil (w : World) : Calls Try.prog 17 #[.pointer none] w fun e w' => e = .returned (.bool false) ∧ w = w' := by
  go_enter Try.func17, Try.ntmps17
  go_wp2_with fail
  refine (of_nil _).mono ?_
  rintro e w' ⟨rfl, rfl⟩
  go_wp2_with fail
  go_ret
  exact ⟨rfl, rfl⟩
set_option maxHeartbeats 400000 in
theorem pbeat_nil (t : Int) (w : World) : Calls Try.prog 21 #[.pointer none, .int .i64 t] w fun e w' => e = .returned (.bool false) ∧ w = w' := by
  go_enter Try.func21, Try.ntmps21
  go_wp2_with fail
  refine (of_nil _).mono ?_
  rintro e w' ⟨rfl, rfl⟩
  go_wp2_with fail
  go_ret
  exact ⟨rfl, rfl⟩
set_option maxHeartbeats 400000 in
theorem pbeaten_nil (t u : Int) (w : World) : Calls Try.prog 24 #[.pointer none, .int .i64 t, .int .i64 u] w fun e w' => e = .returned (.bool false) ∧ w = w' := by
  go_enter Try.func24, Try.ntmps24
  go_wp2_with fail
  refine (of_nil _).mono ?_
  rintro e w' ⟨rfl, rfl⟩
  go_wp2_with fail
  go_ret
  exact ⟨rfl, rfl⟩

set_option maxRecDepth 100000 in
set_option maxHeartbeats 4000000 in
theorem does_any (x : PS) {q : Int} (hok : x.ok q) (hq : 0 ≤ q) (hq2 : q ≤ 1000000000000) (o : OP) (ho : o.ok) (p : PP) (w : World) (h : isPath w p x) :
    Calls Try.prog 14 #[.pointer (some ⟨p.b, 0, none⟩), o.val] w fun e w' => e = .returned (.bool (x.stepB o)) ∧ isPath w' p (x.step o) ∧ turned w w' p.L := by
  obtain ⟨k, n, full, t, u⟩ := o
  obtain ⟨ho1, ho2, ho3⟩ := ho
  simp only at ho1 ho2 ho3
  have T0 := Lib.hid (turned_alloc (turned_refl w p.L) (.cells #[.int .i64 k, .int .i64 n, .bool full, .int .i64 t, .int .i64 u] 35))
  have HX := Lib.hid (h.stay (turned_alloc (turned_refl w []) (.cells #[.int .i64 k, .int .i64 n, .bool full, .int .i64 t, .int .i64 u] 35)))
  have HK := Lib.hid hok
  clear h hok
  unfold OP.val
  by_cases k0 : k = 0
  · subst k0
    have E := Lib.hid (show x.step ⟨0, n, full, t, u⟩ = x.answered by unfold PS.step; simp)
    have EB := Lib.hid (show x.stepB ⟨0, n, full, t, u⟩ = false by unfold PS.stepB; simp)
    go_enter Try.func14, Try.ntmps14
    go_wp2_with fail
    refine (answered_any x p _ HX.out).mono ?_
    rintro e w1 ⟨rfl, o1, t1⟩
    have O1 := Lib.hid o1
    have T1 := Lib.hid t1
    clear o1 t1
    go_wp2_with fail
    go_ret
    exact ⟨ret_bool EB.out.symm, O1.out.val E.out.symm, turned_trans T0.out T1.out⟩
  by_cases k1 : k = 1
  · subst k1
    have E := Lib.hid (show x.step ⟨1, n, full, t, u⟩ = x.sample t by unfold PS.step; simp)
    have EB := Lib.hid (show x.stepB ⟨1, n, full, t, u⟩ = false by unfold PS.stepB; simp)
    clear k0
    go_enter Try.func14, Try.ntmps14
    go_wp2_with fail
    refine (psample_any_all x HK.out t ho2 p _ HX.out).mono ?_
    rintro e w1 ⟨rfl, o1, t1⟩
    have O1 := Lib.hid o1
    have T1 := Lib.hid t1
    clear o1 t1
    go_wp2_with fail
    go_ret
    exact ⟨ret_bool EB.out.symm, O1.out.val E.out.symm, turned_trans T0.out T1.out⟩
  by_cases k2 : k = 2
  · subst k2
    have E := Lib.hid (show x.step ⟨2, n, full, t, u⟩ = x.withS (x.s.acked n full) by unfold PS.step; simp)
    have EB := Lib.hid (show x.stepB ⟨2, n, full, t, u⟩ = false by unfold PS.stepB; simp)
    clear k0 k1
    go_enter Try.func14, Try.ntmps14
    go_wp2_with fail
    refine (packed_any x p HK.out.2.2.2.2.2.2.2.2.2 hq2 n ho1 full _ HX.out).mono ?_
    rintro e w1 ⟨rfl, o1, t1⟩
    have O1 := Lib.hid o1
    have T1 := Lib.hid t1
    clear o1 t1
    go_wp2_with fail
    go_ret
    exact ⟨ret_bool EB.out.symm, O1.out.val E.out.symm, turned_trans T0.out T1.out⟩
  by_cases k3 : k = 3
  · subst k3
    have E := Lib.hid (show x.step ⟨3, n, full, t, u⟩ = x.withS x.s.fast by unfold PS.step; simp)
    have EB := Lib.hid (show x.stepB ⟨3, n, full, t, u⟩ = false by unfold PS.stepB; simp)
    clear k0 k1 k2
    go_enter Try.func14, Try.ntmps14
    go_wp2_with fail
    refine (pfast_any x p HK.out.2.2.2.2.2.2.2.2.2 _ HX.out).mono ?_
    rintro e w1 ⟨rfl, o1, t1⟩
    have O1 := Lib.hid o1
    have T1 := Lib.hid t1
    clear o1 t1
    go_wp2_with fail
    go_ret
    exact ⟨ret_bool EB.out.symm, O1.out.val E.out.symm, turned_trans T0.out T1.out⟩
  by_cases k4 : k = 4
  · subst k4
    have E := Lib.hid (show x.step ⟨4, n, full, t, u⟩ = x.timeout by unfold PS.step; simp)
    have EB := Lib.hid (show x.stepB ⟨4, n, full, t, u⟩ = x.timeoutB by unfold PS.stepB; simp)
    clear k0 k1 k2 k3
    go_enter Try.func14, Try.ntmps14
    go_wp2_with fail
    refine (ptimeout_any x HK.out hq p _ HX.out).mono ?_
    rintro e w1 ⟨rfl, o1, t1⟩
    have O1 := Lib.hid o1
    have T1 := Lib.hid t1
    clear o1 t1
    go_wp2_with fail
    go_ret
    exact ⟨ret_bool EB.out.symm, O1.out.val E.out.symm, turned_trans T0.out T1.out⟩
  by_cases k5 : k = 5
  · subst k5
    have E := Lib.hid (show x.step ⟨5, n, full, t, u⟩ = x.beat' t by unfold PS.step; simp)
    have EB := Lib.hid (show x.stepB ⟨5, n, full, t, u⟩ = x.beatB t by unfold PS.stepB; simp)
    clear k0 k1 k2 k3 k4
    go_enter Try.func14, Try.ntmps14
    go_wp2_with fail
    refine (pbeat_any_all x HK.out t ho2 p _ HX.out).mono ?_
    rintro e w1 ⟨rfl, o1, t1⟩
    have O1 := Lib.hid o1
    have T1 := Lib.hid t1
    clear o1 t1
    go_wp2_with fail
    go_ret
    exact ⟨ret_bool EB.out.symm, O1.out.val E.out.symm, turned_trans T0.out T1.out⟩
  by_cases k6 : k = 6
  · subst k6
    have E := Lib.hid (show x.step ⟨6, n, full, t, u⟩ = x.beaten t u by unfold PS.step; simp)
    have EB := Lib.hid (show x.stepB ⟨6, n, full, t, u⟩ = x.beatenB t u by unfold PS.stepB; simp)
    clear k0 k1 k2 k3 k4 k5
    go_enter Try.func14, Try.ntmps14
    go_wp2_with fail
    refine (pbeaten_any_all x HK.out t u ho3 p _ HX.out).mono ?_
    rintro e w1 ⟨rfl, o1, t1⟩
    have O1 := Lib.hid o1
    have T1 := Lib.hid t1
    clear o1 t1
    go_wp2_with fail
    go_ret
    exact ⟨ret_bool EB.out.symm, O1.out.val E.out.symm, turned_trans T0.out T1.out⟩
  have E := Lib.hid (show x.step ⟨k, n, full, t, u⟩ = x by unfold PS.step; simp [k0, k1, k2, k3, k4, k5, k6])
  have EB := Lib.hid (show x.stepB ⟨k, n, full, t, u⟩ = false by unfold PS.stepB; simp [k4, k5, k6])
  have z0 : (k == 0) = false := by simpa using k0
  have z1 : (k == 1) = false := by simpa using k1
  have z2 : (k == 2) = false := by simpa using k2
  have z3 : (k == 3) = false := by simpa using k3
  have z4 : (k == 4) = false := by simpa using k4
  have z5 : (k == 5) = false := by simpa using k5
  have z6 : (k == 6) = false := by simpa using k6
  clear k0 k1 k2 k3 k4 k5 k6
  go_enter Try.func14, Try.ntmps14
  go_wp2_with fail
  go_ret
  exact ⟨ret_bool EB.out.symm, HX.out.val E.out.symm, T0.out⟩

set_option maxRecDepth 100000 in
set_option maxHeartbeats 4000000 in
theorem does_any_nil (o : OP) (w : World) :
    Calls Try.prog 14 #[.pointer none, o.val] w fun e w' => e = .returned (.bool false) ∧ turned w w' [] := by
  obtain ⟨k, n, full, t, u⟩ := o
  have T0 := Lib.hid (turned_alloc (turned_refl w []) (.cells #[.int .i64 k, .int .i64 n, .bool full, .int .i64 t, .int .i64 u] 35))
  unfold OP.val
  by_cases k0 : k = 0
  · subst k0
    go_enter Try.func14, Try.ntmps14
    go_wp2_with fail
    refine (answered_nil _).mono ?_
    rintro e w1 ⟨rfl, rfl⟩
    go_wp2_with fail
    go_ret
    exact ⟨rfl, T0.out⟩
  by_cases k1 : k = 1
  · subst k1
    clear k0
    go_enter Try.func14, Try.ntmps14
    go_wp2_with fail
    refine (psample_nil t _).mono ?_
    rintro e w1 ⟨rfl, rfl⟩
    go_wp2_with fail
    go_ret
    exact ⟨rfl, T0.out⟩
  by_cases k2 : k = 2
  · subst k2
    clear k0 k1
    go_enter Try.func14, Try.ntmps14
    go_wp2_with fail
    refine (packed_nil n full _).mono ?_
    rintro e w1 ⟨rfl, rfl⟩
    go_wp2_with fail
    go_ret
    exact ⟨rfl, T0.out⟩
  by_cases k3 : k = 3
  · subst k3
    clear k0 k1 k2
    go_enter Try.func14, Try.ntmps14
    go_wp2_with fail
    refine (pfast_nil _).mono ?_
    rintro e w1 ⟨rfl, rfl⟩
    go_wp2_with fail
    go_ret
    exact ⟨rfl, T0.out⟩
  by_cases k4 : k = 4
  · subst k4
    clear k0 k1 k2 k3
    go_enter Try.func14, Try.ntmps14
    go_wp2_with fail
    refine (ptimeout_nil _).mono ?_
    rintro e w1 ⟨rfl, rfl⟩
    go_wp2_with fail
    go_ret
    exact ⟨rfl, T0.out⟩
  by_cases k5 : k = 5
  · subst k5
    clear k0 k1 k2 k3 k4
    go_enter Try.func14, Try.ntmps14
    go_wp2_with fail
    refine (pbeat_nil t _).mono ?_
    rintro e w1 ⟨rfl, rfl⟩
    go_wp2_with fail
    go_ret
    exact ⟨rfl, T0.out⟩
  by_cases k6 : k = 6
  · subst k6
    clear k0 k1 k2 k3 k4 k5
    go_enter Try.func14, Try.ntmps14
    go_wp2_with fail
    refine (pbeaten_nil t u _).mono ?_
    rintro e w1 ⟨rfl, rfl⟩
    go_wp2_with fail
    go_ret
    exact ⟨rfl, T0.out⟩
  have z0 : (k == 0) = false := by simpa using k0
  have z1 : (k == 1) = false := by simpa using k1
  have z2 : (k == 2) = false := by simpa using k2
  have z3 : (k == 3) = false := by simpa using k3
  have z4 : (k == 4) = false := by simpa using k4
  have z5 : (k == 5) = false := by simpa using k5
  have z6 : (k == 6) = false := by simpa using k6
  clear k0 k1 k2 k3 k4 k5 k6
  go_enter Try.func14, Try.ntmps14
  go_wp2_with fail
  go_ret
  exact ⟨rfl, T0.out⟩

theorem psample_ref_all (x : PS) {q : Int} (hok : x.ok q) (t : Int) (ht : t ≤ 9223372036854775807) (p : PP) (w : World) (h : isRef w p x) :
    Calls Try.prog 44 #[.pointer (some ⟨p.s, 0, none⟩), .int .i64 t] w fun e w' => e = .returned (.tuple #[]) ∧ isRef w' p (x.sample t) ∧ turned w w' p.L := by
  by_cases hn : t < 0
  · have e : x.sample t = x := by unfold PS.sample; exact if_pos hn
    rw [e]
    exact psample_ref_neg x p t hn w h
  · have e : x.sample t = x.withR (x.r.sample t) := by unfold PS.sample; exact if_neg hn
    rw [e]
    exact psample_ref x p t hok.2.2.2.2.2.2.2.2.1 (by omega) ht w h
theorem pbeat_ref_all (x : PS) {q : Int} (hok : x.ok q) (t : Int) (ht : t ≤ 9223372036854775807) (p : PP) (w : World) (h : isRef w p x) :
    Calls Try.prog 48 #[.pointer (some ⟨p.s, 0, none⟩), .int .i64 t] w fun e w' => e = .returned (.bool (x.beatB t)) ∧ isRef w' p (x.beat' t) ∧ turned w w' p.L := by
  by_cases hn : x.next ≤ t
  · have e : x.beat' t = x.beat1 t := by unfold PS.beat'; exact if_pos hn
    have e2 : x.beatB t = true := by unfold PS.beatB; simpa using hn
    rw [e, e2]
    exact pbeat_ref_due x hok t hn ht p w h
  · have e : x.beat' t = x := by unfold PS.beat'; exact if_neg hn
    have e2 : x.beatB t = false := by unfold PS.beatB; simpa using hn
    rw [e, e2]
    refine (pbeat_ref_early x t (by omega) p w h).mono ?_
    rintro e w' ⟨rfl, rfl⟩
    exact ⟨rfl, h, turned_refl _ _⟩
theorem pbeaten_ref_all (x : PS) {q : Int} (hok : x.ok q) (s n : Int) (hn : n ≤ 9223372036854775807) (p : PP) (w : World) (h : isRef w p x) :
    Calls Try.prog 49 #[.pointer (some ⟨p.s, 0, none⟩), .int .i64 s, .int .i64 n] w fun e w' => e = .returned (.bool (x.beatenB s n)) ∧ isRef w' p (x.beaten s n) ∧ turned w w' p.L := by
  cases hb : x.beatenB s n
  · have e : x.beaten s n = x := by unfold PS.beaten; rw [hb]; rfl
    rw [e]
    refine (pbeaten_ref_no x s n hb p w h).mono ?_
    rintro e w' ⟨rfl, rfl⟩
    exact ⟨rfl, h, turned_refl _ _⟩
  · have e : x.beaten s n = x.answered.sample (n - s) := by unfold PS.beaten; rw [hb]; rfl
    rw [e]
    exact pbeaten_ref_yes x hok s n hb hn p w h

set_option maxHeartbeats 400000 in
theorem answered_ref_nil (w : World) : Calls Try.prog 43 #[.pointer none] w fun e w' => e = .returned (.tuple #[]) ∧ w = w' := by
  go_enter Try.func43, Try.ntmps43
  go_wp2_with fail
  go_end0
  exact ⟨rfl, rfl⟩
set_option maxHeartbeats 400000 in
theorem psample_ref_nil (t : Int) (w : World) : Calls Try.prog 44 #[.pointer none, .int .i64 t] w fun e w' => e = .returned (.tuple #[]) ∧ w = w' := by
  go_enter Try.func44, Try.ntmps44
  go_wp2_with fail
  go_end0
  exact ⟨rfl, rfl⟩
set_option maxHeartbeats 400000 in
theorem packed_ref_nil (n : Int) (full : Bool) (w : World) : Calls Try.prog 45 #[.pointer none, .int .i64 n, .bool full] w fun e w' => e = .returned (.tuple #[]) ∧ w = w' := by
  go_enter Try.func45, Try.ntmps45
  go_wp2_with fail
  go_end0
  exact ⟨rfl, rfl⟩
set_option maxHeartbeats 400000 in
theorem pfast_ref_nil (w : World) : Calls Try.prog 46 #[.pointer none] w fun e w' => e = .returned (.tuple #[]) ∧ w = w' := by
  go_enter Try.func46, Try.ntmps46
  go_wp2_with fail
  go_end0
  exact ⟨rfl, rfl⟩
set_option maxHeartbeats 400000 in
theorem ptimeout_ref_nil (w : World) : Calls Try.prog 47 #[.pointer none] w fun e w' => e = .returned (.bool false) ∧ w = w' := by
  go_enter Try.func47, Try.ntmps47
  go_wp2_with fail
  go_ret
  exact ⟨rfl, rfl⟩
set_option maxHeartbeats 400000 in
theorem pbeat_ref_nil (t : Int) (w : World) : Calls Try.prog 48 #[.pointer none, .int .i64 t] w fun e w' => e = .returned (.bool false) ∧ w = w' := by
  go_enter Try.func48, Try.ntmps48
  go_wp2_with fail
  go_ret
  exact ⟨rfl, rfl⟩
set_option maxHeartbeats 400000 in
theorem pbeaten_ref_nil (t u : Int) (w : World) : Calls Try.prog 49 #[.pointer none, .int .i64 t, .int .i64 u] w fun e w' => e = .returned (.bool false) ∧ w = w' := by
  go_enter Try.func49, Try.ntmps49
  go_wp2_with fail
  go_ret
  exact ⟨rfl, rfl⟩

set_option maxRecDepth 100000 in
set_option maxHeartbeats 4000000 in
theorem does_ref (x : PS) {q : Int} (hok : x.ok q) (hq : 0 ≤ q) (hq2 : q ≤ 1000000000000) (o : OP) (ho : o.ok) (p : PP) (w : World) (h : isRef w p x) :
    Calls Try.prog 23 #[.pointer (some ⟨p.s, 0, none⟩), o.val] w fun e w' => e = .returned (.bool (x.stepB o)) ∧ isRef w' p (x.step o) ∧ turned w w' p.L := by
  obtain ⟨k, n, full, t, u⟩ := o
  obtain ⟨ho1, ho2, ho3⟩ := ho
  simp only at ho1 ho2 ho3
  have T0 := Lib.hid (turned_alloc (turned_refl w p.L) (.cells #[.int .i64 k, .int .i64 n, .bool full, .int .i64 t, .int .i64 u] 35))
  have HX := Lib.hid (h.stay (turned_alloc (turned_refl w []) (.cells #[.int .i64 k, .int .i64 n, .bool full, .int .i64 t, .int .i64 u] 35)))
  have HK := Lib.hid hok
  clear h hok
  unfold OP.val
  by_cases k0 : k = 0
  · subst k0
    have E := Lib.hid (show x.step ⟨0, n, full, t, u⟩ = x.answered by unfold PS.step; simp)
    have EB := Lib.hid (show x.stepB ⟨0, n, full, t, u⟩ = false by unfold PS.stepB; simp)
    go_enter Try.func23, Try.ntmps23
    go_wp2_with fail
    refine (answered_ref x p _ HX.out).mono ?_
    rintro e w1 ⟨rfl, o1, t1⟩
    have O1 := Lib.hid o1
    have T1 := Lib.hid t1
    clear o1 t1
    go_wp2_with fail
    go_ret
    exact ⟨ret_bool EB.out.symm, O1.out.val E.out.symm, turned_trans T0.out T1.out⟩
  by_cases k1 : k = 1
  · subst k1
    have E := Lib.hid (show x.step ⟨1, n, full, t, u⟩ = x.sample t by unfold PS.step; simp)
    have EB := Lib.hid (show x.stepB ⟨1, n, full, t, u⟩ = false by unfold PS.stepB; simp)
    clear k0
    go_enter Try.func23, Try.ntmps23
    go_wp2_with fail
    refine (psample_ref_all x HK.out t ho2 p _ HX.out).mono ?_
    rintro e w1 ⟨rfl, o1, t1⟩
    have O1 := Lib.hid o1
    have T1 := Lib.hid t1
    clear o1 t1
    go_wp2_with fail
    go_ret
    exact ⟨ret_bool EB.out.symm, O1.out.val E.out.symm, turned_trans T0.out T1.out⟩
  by_cases k2 : k = 2
  · subst k2
    have E := Lib.hid (show x.step ⟨2, n, full, t, u⟩ = x.withS (x.s.acked n full) by unfold PS.step; simp)
    have EB := Lib.hid (show x.stepB ⟨2, n, full, t, u⟩ = false by unfold PS.stepB; simp)
    clear k0 k1
    go_enter Try.func23, Try.ntmps23
    go_wp2_with fail
    refine (packed_ref x p HK.out.2.2.2.2.2.2.2.2.2 hq2 n ho1 full _ HX.out).mono ?_
    rintro e w1 ⟨rfl, o1, t1⟩
    have O1 := Lib.hid o1
    have T1 := Lib.hid t1
    clear o1 t1
    go_wp2_with fail
    go_ret
    exact ⟨ret_bool EB.out.symm, O1.out.val E.out.symm, turned_trans T0.out T1.out⟩
  by_cases k3 : k = 3
  · subst k3
    have E := Lib.hid (show x.step ⟨3, n, full, t, u⟩ = x.withS x.s.fast by unfold PS.step; simp)
    have EB := Lib.hid (show x.stepB ⟨3, n, full, t, u⟩ = false by unfold PS.stepB; simp)
    clear k0 k1 k2
    go_enter Try.func23, Try.ntmps23
    go_wp2_with fail
    refine (pfast_ref x p HK.out.2.2.2.2.2.2.2.2.2 _ HX.out).mono ?_
    rintro e w1 ⟨rfl, o1, t1⟩
    have O1 := Lib.hid o1
    have T1 := Lib.hid t1
    clear o1 t1
    go_wp2_with fail
    go_ret
    exact ⟨ret_bool EB.out.symm, O1.out.val E.out.symm, turned_trans T0.out T1.out⟩
  by_cases k4 : k = 4
  · subst k4
    have E := Lib.hid (show x.step ⟨4, n, full, t, u⟩ = x.timeout by unfold PS.step; simp)
    have EB := Lib.hid (show x.stepB ⟨4, n, full, t, u⟩ = x.timeoutB by unfold PS.stepB; simp)
    clear k0 k1 k2 k3
    go_enter Try.func23, Try.ntmps23
    go_wp2_with fail
    refine (ptimeout_ref x HK.out hq p _ HX.out).mono ?_
    rintro e w1 ⟨rfl, o1, t1⟩
    have O1 := Lib.hid o1
    have T1 := Lib.hid t1
    clear o1 t1
    go_wp2_with fail
    go_ret
    exact ⟨ret_bool EB.out.symm, O1.out.val E.out.symm, turned_trans T0.out T1.out⟩
  by_cases k5 : k = 5
  · subst k5
    have E := Lib.hid (show x.step ⟨5, n, full, t, u⟩ = x.beat' t by unfold PS.step; simp)
    have EB := Lib.hid (show x.stepB ⟨5, n, full, t, u⟩ = x.beatB t by unfold PS.stepB; simp)
    clear k0 k1 k2 k3 k4
    go_enter Try.func23, Try.ntmps23
    go_wp2_with fail
    refine (pbeat_ref_all x HK.out t ho2 p _ HX.out).mono ?_
    rintro e w1 ⟨rfl, o1, t1⟩
    have O1 := Lib.hid o1
    have T1 := Lib.hid t1
    clear o1 t1
    go_wp2_with fail
    go_ret
    exact ⟨ret_bool EB.out.symm, O1.out.val E.out.symm, turned_trans T0.out T1.out⟩
  by_cases k6 : k = 6
  · subst k6
    have E := Lib.hid (show x.step ⟨6, n, full, t, u⟩ = x.beaten t u by unfold PS.step; simp)
    have EB := Lib.hid (show x.stepB ⟨6, n, full, t, u⟩ = x.beatenB t u by unfold PS.stepB; simp)
    clear k0 k1 k2 k3 k4 k5
    go_enter Try.func23, Try.ntmps23
    go_wp2_with fail
    refine (pbeaten_ref_all x HK.out t u ho3 p _ HX.out).mono ?_
    rintro e w1 ⟨rfl, o1, t1⟩
    have O1 := Lib.hid o1
    have T1 := Lib.hid t1
    clear o1 t1
    go_wp2_with fail
    go_ret
    exact ⟨ret_bool EB.out.symm, O1.out.val E.out.symm, turned_trans T0.out T1.out⟩
  have E := Lib.hid (show x.step ⟨k, n, full, t, u⟩ = x by unfold PS.step; simp [k0, k1, k2, k3, k4, k5, k6])
  have EB := Lib.hid (show x.stepB ⟨k, n, full, t, u⟩ = false by unfold PS.stepB; simp [k4, k5, k6])
  have z0 : (k == 0) = false := by simpa using k0
  have z1 : (k == 1) = false := by simpa using k1
  have z2 : (k == 2) = false := by simpa using k2
  have z3 : (k == 3) = false := by simpa using k3
  have z4 : (k == 4) = false := by simpa using k4
  have z5 : (k == 5) = false := by simpa using k5
  have z6 : (k == 6) = false := by simpa using k6
  clear k0 k1 k2 k3 k4 k5 k6
  go_enter Try.func23, Try.ntmps23
  go_wp2_with fail
  go_ret
  exact ⟨ret_bool EB.out.symm, HX.out.val E.out.symm, T0.out⟩

set_option maxRecDepth 100000 in
set_option maxHeartbeats 4000000 in
theorem does_ref_nil (o : OP) (w : World) :
    Calls Try.prog 23 #[.pointer none, o.val] w fun e w' => e = .returned (.bool false) ∧ turned w w' [] := by
  obtain ⟨k, n, full, t, u⟩ := o
  have T0 := Lib.hid (turned_alloc (turned_refl w []) (.cells #[.int .i64 k, .int .i64 n, .bool full, .int .i64 t, .int .i64 u] 35))
  unfold OP.val
  by_cases k0 : k = 0
  · subst k0
    go_enter Try.func23, Try.ntmps23
    go_wp2_with fail
    refine (answered_ref_nil _).mono ?_
    rintro e w1 ⟨rfl, rfl⟩
    go_wp2_with fail
    go_ret
    exact ⟨rfl, T0.out⟩
  by_cases k1 : k = 1
  · subst k1
    clear k0
    go_enter Try.func23, Try.ntmps23
    go_wp2_with fail
    refine (psample_ref_nil t _).mono ?_
    rintro e w1 ⟨rfl, rfl⟩
    go_wp2_with fail
    go_ret
    exact ⟨rfl, T0.out⟩
  by_cases k2 : k = 2
  · subst k2
    clear k0 k1
    go_enter Try.func23, Try.ntmps23
    go_wp2_with fail
    refine (packed_ref_nil n full _).mono ?_
    rintro e w1 ⟨rfl, rfl⟩
    go_wp2_with fail
    go_ret
    exact ⟨rfl, T0.out⟩
  by_cases k3 : k = 3
  · subst k3
    clear k0 k1 k2
    go_enter Try.func23, Try.ntmps23
    go_wp2_with fail
    refine (pfast_ref_nil _).mono ?_
    rintro e w1 ⟨rfl, rfl⟩
    go_wp2_with fail
    go_ret
    exact ⟨rfl, T0.out⟩
  by_cases k4 : k = 4
  · subst k4
    clear k0 k1 k2 k3
    go_enter Try.func23, Try.ntmps23
    go_wp2_with fail
    refine (ptimeout_ref_nil _).mono ?_
    rintro e w1 ⟨rfl, rfl⟩
    go_wp2_with fail
    go_ret
    exact ⟨rfl, T0.out⟩
  by_cases k5 : k = 5
  · subst k5
    clear k0 k1 k2 k3 k4
    go_enter Try.func23, Try.ntmps23
    go_wp2_with fail
    refine (pbeat_ref_nil t _).mono ?_
    rintro e w1 ⟨rfl, rfl⟩
    go_wp2_with fail
    go_ret
    exact ⟨rfl, T0.out⟩
  by_cases k6 : k = 6
  · subst k6
    clear k0 k1 k2 k3 k4 k5
    go_enter Try.func23, Try.ntmps23
    go_wp2_with fail
    refine (pbeaten_ref_nil t u _).mono ?_
    rintro e w1 ⟨rfl, rfl⟩
    go_wp2_with fail
    go_ret
    exact ⟨rfl, T0.out⟩
  have z0 : (k == 0) = false := by simpa using k0
  have z1 : (k == 1) = false := by simpa using k1
  have z2 : (k == 2) = false := by simpa using k2
  have z3 : (k == 3) = false := by simpa using k3
  have z4 : (k == 4) = false := by simpa using k4
  have z5 : (k == 5) = false := by simpa using k5
  have z6 : (k == 6) = false := by simpa using k6
  clear k0 k1 k2 k3 k4 k5 k6
  go_enter Try.func23, Try.ntmps23
  go_wp2_with fail
  go_ret
  exact ⟨rfl, T0.out⟩

set_option maxRecDepth 100000 in
set_option maxHeartbeats 2000000 in
theorem alike_any (x : PS) (p r : PP) (w : World) (h : isPath w p x) (k : isRef w r x) :
    Calls Try.prog 15 #[.pointer (some ⟨p.b, 0, none⟩), .pointer (some ⟨r.s, 0, none⟩)] w fun e w' => e = .returned (.bool true) ∧ turned w w' [] := by
  have H := Lib.hid h
  have K := Lib.hid k
  clear h k
  have b1 : (x.act == x.act) = true := by simp
  go_enter Try.func15, Try.ntmps15
  go_wp2_with fail
  refine (active_any x p _ H.out).mono ?_
  rintro e w' ⟨rfl, n1, rfl⟩
  go_wp2_with fail
  refine (active_ref x r _ (K.out.drewN n1)).mono ?_
  rintro e w' ⟨rfl, n2, rfl⟩
  go_wp2_with fail
  refine (fail_any x p _ (H.out.drewN (n1 + n2))).mono ?_
  rintro e w' ⟨rfl, rfl⟩
  go_wp2_with fail
  refine (fail_ref x r _ (K.out.drewN (n1 + n2))).mono ?_
  rintro e w' ⟨rfl, rfl⟩
  go_wp2_with fail
  refine (rto_any x p _ (H.out.drewN (n1 + n2))).mono ?_
  rintro e w3 ⟨rfl, g3⟩
  have T3 := Lib.hid (turned_trans (turned_drewN w (n1 + n2) []) (turned_none (L := []) g3))
  have H3 := Lib.hid (H.out.stay T3.out)
  have K3 := Lib.hid (K.out.stay T3.out)
  clear g3
  go_wp2_with fail
  refine (rto_ref x r _ K3.out).mono ?_
  rintro e w' ⟨rfl, rfl⟩
  go_wp2_with fail
  refine (psize_any x p _ H3.out).mono ?_
  rintro e w' ⟨rfl, rfl⟩
  go_wp2_with fail
  refine (psize_ref x r _ K3.out).mono ?_
  rintro e w' ⟨rfl, rfl⟩
  go_wp2_with fail
  refine (when_any x p _ H3.out).mono ?_
  rintro e w' ⟨rfl, rfl⟩
  go_wp2_with fail
  refine (when_ref x r _ K3.out).mono ?_
  rintro e w' ⟨rfl, rfl⟩
  go_wp2_with fail
  go_ret
  exact ⟨rfl, T3.out⟩
set_option maxRecDepth 100000 in
set_option maxHeartbeats 2000000 in
theorem alike_nil (w : World) :
    Calls Try.prog 15 #[.pointer none, .pointer none] w fun e w' => e = .returned (.bool true) ∧ turned w w' [] := by
  go_enter Try.func15, Try.ntmps15
  go_wp2_with fail
  refine (active_nil _).mono ?_
  rintro e w' ⟨rfl, n1, rfl⟩
  go_wp2_with fail
  refine (active_ref_nil _).mono ?_
  rintro e w' ⟨rfl, n2, rfl⟩
  go_wp2_with fail
  refine (fail_nil _).mono ?_
  rintro e w' ⟨rfl, rfl⟩
  go_wp2_with fail
  refine (fail_ref_nil _).mono ?_
  rintro e w' ⟨rfl, rfl⟩
  go_wp2_with fail
  refine (rto_nil _).mono ?_
  rintro e w' ⟨rfl, rfl⟩
  go_wp2_with fail
  refine (rto_ref_nil _).mono ?_
  rintro e w' ⟨rfl, rfl⟩
  go_wp2_with fail
  refine (psize_nil _).mono ?_
  rintro e w' ⟨rfl, rfl⟩
  go_wp2_with fail
  refine (psize_ref_nil _).mono ?_
  rintro e w' ⟨rfl, rfl⟩
  go_wp2_with fail
  refine (when_nil _).mono ?_
  rintro e w' ⟨rfl, rfl⟩
  go_wp2_with fail
  refine (when_ref_nil _).mono ?_
  rintro e w' ⟨rfl, rfl⟩
  go_wp2_with fail
  go_ret
  exact ⟨rfl, turned_drewN w (n1 + n2) []⟩
end Go.Proofs.Ytfboihbanehgcaa
