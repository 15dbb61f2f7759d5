/- The anchor of the laws of chapter 14; how a list of things done comes in. No condition. -/
import Derived.Test.YtfboihbanehgcaaPathAll
import Derived.Test.YtfboihbanehgcaaPathNew
namespace Go.Proofs.Ytfboihbanehgcaa
open Go.RowKit Go.ChangeShapes Go.WideShapes Go.Deep
set_option linter.unusedVariables false
set_option linter.unusedSimpArgs false

def wp0 : PS := PS.init (plain 1) 5
def wp1 : PS := wp0.beat' 15
def wp2 : PS := wp1.beat' 28
def wp3 : PS := wp2.timeout
def wp4 : PS := wp3.beaten 28 30
theorem wp0_ok : wp0.ok 0 := pok_init (plain_fits 1 5 (by decide))
theorem wp1_ok : wp1.ok 0 := pok_beat' wp0_ok
theorem wp2_ok : wp2.ok 0 := pok_beat' wp1_ok
theorem wp3_ok : wp3.ok 0 := pok_timeout wp2_ok (Int.le_refl 0)
theorem wp4_ok : wp4.ok 0 := pok_beaten wp3_ok

set_option maxRecDepth 100000 in
set_option maxHeartbeats 4000000 in
theorem works_any (w : World) : Calls Try.prog 9 #[] w fun e w' => e = .returned (.bool true) ∧ w.grownBy w' none := by
  have a0 : wp0.act = true := by kernel_rfl
  have r0 : wp0.r.v = 3 := by kernel_rfl
  have s0 : wp0.s.size = 256 := by kernel_rfl
  have n0 : wp0.next = 15 := by kernel_rfl
  have d0 : wp0.beatB 14 = false := by kernel_rfl
  have d1 : wp0.beatB 15 = true := by kernel_rfl
  have n1 : wp1.next = 28 := by kernel_rfl
  have d2 : wp1.beatB 28 = true := by kernel_rfl
  have b2 : wp2.bad = 1 := by kernel_rfl
  have t2 : wp2.timeoutB = true := by kernel_rfl
  have a3 : wp3.act = false := by kernel_rfl
  have s3 : wp3.s.size = 128 := by kernel_rfl
  have z3 : wp3.beatenB 28 30 = true := by kernel_rfl
  have a4 : wp4.act = true := by kernel_rfl
  have r4 : wp4.r.v = 6 := by kernel_rfl
  go_enter Try.func9, Try.ntmps9
  go_wp2_with fail
  refine (plain_any 1 (by decide) _).mono ?_
  rintro e w1 ⟨rfl, g1⟩
  have G1 := Lib.hid g1
  clear g1
  go_wp2_with fail
  refine (pnew_any (plain 1) 5 (plain_fits 1 5 (by decide)) _).mono ?_
  rintro e w2 ⟨p, rfl, h2, i2, g2⟩
  have H2 := Lib.hid (show isPath w2 p wp0 from h2)
  have I2 := Lib.hid i2
  have T2 := Lib.hid (turned_trans (turned_none (L := []) G1.out) (turned_none g2))
  clear h2 i2 g2

  go_wp2_with fail
  refine (active_any wp0 p _ H2.out).mono ?_
  rintro e w9 ⟨rfl, n1x, rfl⟩
  have H3 := Lib.hid (H2.out.drewN n1x)
  have T3 := Lib.hid (turned_drewN' n1x T2.out)
  go_wp2_with fail
  refine (rto_any wp0 p _ H3.out).mono ?_
  rintro e w4 ⟨rfl, g⟩
  have H4 := Lib.hid (H3.out.stay (turned_none g))
  have T4 := Lib.hid (turned_trans T3.out (turned_none g))
  clear g
  go_wp2_with fail
  refine (psize_any wp0 p _ H4.out).mono ?_
  rintro e w9 ⟨rfl, rfl⟩
  go_wp2_with fail
  refine (when_any wp0 p _ H4.out).mono ?_
  rintro e w9 ⟨rfl, rfl⟩
  go_wp2_with fail
  refine (pbeat_any_early wp0 14 (by decide) p _ H4.out).mono ?_
  rintro e w9 ⟨rfl, rfl⟩
  go_wp2_with fail
  refine (pbeat_any_all wp0 wp0_ok 15 (by decide) p _ H4.out).mono ?_
  rintro e w5 ⟨rfl, h, t⟩
  have H5 := Lib.hid (show isPath w5 p wp1 from h)
  have T5 := Lib.hid (turned_trans (turned_more T4.out (M := p.L) (by simp)) t)
  clear h t
  go_wp2_with fail
  refine (when_any wp1 p _ H5.out).mono ?_
  rintro e w9 ⟨rfl, rfl⟩
  go_wp2_with fail
  refine (pbeat_any_all wp1 wp1_ok 28 (by decide) p _ H5.out).mono ?_
  rintro e w6 ⟨rfl, h, t⟩
  have H6 := Lib.hid (show isPath w6 p wp2 from h)
  have T6 := Lib.hid (turned_trans T5.out t)
  clear h t
  go_wp2_with fail
  refine (fail_any wp2 p _ H6.out).mono ?_
  rintro e w9 ⟨rfl, rfl⟩
  go_wp2_with fail
  refine (ptimeout_any wp2 wp2_ok (Int.le_refl 0) p _ H6.out).mono ?_
  rintro e w7 ⟨rfl, h, t⟩
  have H7 := Lib.hid (show isPath w7 p wp3 from h)
  have T7 := Lib.hid (turned_trans T6.out t)
  clear h t
  go_wp2_with fail
  refine (active_any wp3 p _ H7.out).mono ?_
  rintro e w9 ⟨rfl, n2x, rfl⟩
  have H8 := Lib.hid (H7.out.drewN n2x)
  have T8 := Lib.hid (turned_drewN' n2x T7.out)
  go_wp2_with fail
  refine (psize_any wp3 p _ H8.out).mono ?_
  rintro e w9 ⟨rfl, rfl⟩
  go_wp2_with fail
  refine (pbeaten_any_all wp3 wp3_ok 28 30 (by decide) p _ H8.out).mono ?_
  rintro e w9 ⟨rfl, h, t⟩
  have H9 := Lib.hid (show isPath w9 p wp4 from h)
  have T9 := Lib.hid (turned_trans T8.out t)
  clear h t
  go_wp2_with fail
  refine (active_any wp4 p _ H9.out).mono ?_
  rintro e w9 ⟨rfl, n3x, rfl⟩
  have H10 := Lib.hid (H9.out.drewN n3x)
  have T10 := Lib.hid (turned_drewN' n3x T9.out)
  go_wp2_with fail
  refine (rto_any wp4 p _ H10.out).mono ?_
  rintro e w11 ⟨rfl, g⟩
  have H11 := Lib.hid (H10.out.stay (turned_none g))
  have T11 := Lib.hid (turned_trans T10.out (turned_none g))
  clear g
  go_wp2_with fail
  go_ret
  have T := T11.out
  have I := I2.out
  have g1 := G1.out.size
  have q : ∀ j, j < w.heap.size → j ∉ p.L := by
    intro j hj hm
    unfold PP.within at I
    simp [PP.L] at hm
    omega
  exact ⟨rfl, T.1, T.2.1, T.2.2.1, T.2.2.2.1, fun j hj _ => T.2.2.2.2 j hj (q j hj)⟩

/-- The things done, as they come in. -/
def Ops (W : World) (v : Value) (x : Nat × (Nat → OP)) : Prop :=
  IsSl W v x.1 5 (fun i j => if j = 0 then .int .i64 (x.2 i).k else if j = 1 then .int .i64 (x.2 i).n else if j = 2 then .bool (x.2 i).full else if j = 3 then .int .i64 (x.2 i).t else .int .i64 (x.2 i).u) ∧ ∀ i, i < x.1 → (x.2 i).ok
theorem opened22 {H : Type} {enc : TypeId × Value → H} {W : World} {r : Reach} {base : Nat} {v : Value} {d : DataW H} {p : List MemPlace}
    (hv : Value.okWide Try.prog W r base 22 v) (h : DataW.Trod enc Try.prog W 0 (fun _ => true) true 22 v d p) : ∃ x, Ops W v x := by
  obtain ⟨n, V, hsl, hV⟩ := openSl 5 Try.underlying22 Try.underlying35 (by kernel_rfl) (by kernel_rfl) rfl (by decide) hv h
  have e0 : ∀ i, i < n → ∃ c : Int, V i 0 = .int .i64 c ∧ (Lit.int .i64 c).wf = true := fun i hi => by
    obtain ⟨m, y, hy⟩ := hV i hi 0 _ rfl
    exact trod_int1 Try.underlying3 hy
  have e1 : ∀ i, i < n → ∃ c : Int, V i 1 = .int .i64 c ∧ (Lit.int .i64 c).wf = true := fun i hi => by
    obtain ⟨m, y, hy⟩ := hV i hi 1 _ rfl
    exact trod_int1 Try.underlying3 hy
  have e2 : ∀ i, i < n → ∃ c : Bool, V i 2 = .bool c := fun i hi => by
    obtain ⟨m, y, hy⟩ := hV i hi 2 _ rfl
    exact trod_bool1 Try.underlying4 hy
  have e3 : ∀ i, i < n → ∃ c : Int, V i 3 = .int .i64 c ∧ (Lit.int .i64 c).wf = true := fun i hi => by
    obtain ⟨m, y, hy⟩ := hV i hi 3 _ rfl
    exact trod_int1 Try.underlying2 hy
  have e4 : ∀ i, i < n → ∃ c : Int, V i 4 = .int .i64 c ∧ (Lit.int .i64 c).wf = true := fun i hi => by
    obtain ⟨m, y, hy⟩ := hV i hi 4 _ rfl
    exact trod_int1 Try.underlying2 hy
  obtain ⟨f0, h0⟩ := choose_lt e0
  obtain ⟨f1, h1⟩ := choose_lt e1
  obtain ⟨f2, h2⟩ := choose_lt e2
  obtain ⟨f3, h3⟩ := choose_lt e3
  obtain ⟨f4, h4⟩ := choose_lt e4
  refine ⟨(n, fun i => ⟨f0 i, f1 i, f2 i, f3 i, f4 i⟩), isSl_congr hsl fun i j hi hj => ?_, fun i hi => ⟨(bounds_i64 (h1 i hi).2).2, (bounds_i64 (h3 i hi).2).2, (bounds_i64 (h4 i hi).2).2⟩⟩
  have : j = 0 ∨ j = 1 ∨ j = 2 ∨ j = 3 ∨ j = 4 := by omega
  rcases this with rfl | rfl | rfl | rfl | rfl
  · rw [(h0 i hi).1]; rfl
  · rw [(h1 i hi).1]; rfl
  · rw [h2 i hi]; rfl
  · rw [(h3 i hi).1]; rfl
  · rw [(h4 i hi).1]; rfl
end Go.Proofs.Ytfboihbanehgcaa
