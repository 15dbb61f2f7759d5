/- The document's Put: what is refused. Conditions: the queue lies in memory. -/
import Derived.Test.YtibnjakiagcopaaOutqRef2
namespace Go.Proofs.Ytibnjakiagcopaa
open Go.RowKit Go.Deep
set_option linter.unusedVariables false
set_option linter.unusedSimpArgs false

set_option maxRecDepth 100000 in
set_option maxHeartbeats 4000000 in
theorem rput_no (b : Nat) (G : List Nat) (S : QS) (n : Nat) (s : Int) (o : Bool) (mv : Value) (B : List Int) (un : Int) (w : World) (h : refIs w b G S) (hk : S.ok n) (hv : LiesB w mv B) (hB : B.length ≤ 9223372036854775807) (hs : 0 ≤ s ∧ s < 65536) (he : S.err s B.length un ≠ 0) :
    Calls Try.prog 32 #[.pointer (some ⟨b, 0, none⟩), .agg #[.int .u16 s, .bool o, mv], .int .i64 un] w fun e w' => e = .returned (.tuple #[.int .i64 0, .int .i64 (S.err s B.length un)]) ∧ turned w w' [] := by
  obtain ⟨v, sv, Z, rfl, h1, h2, h3, h4, h5⟩ := h
  obtain ⟨a, cap, rfl, hc1, hc2⟩ := hv.1.form
  obtain ⟨a2, cap2, rfl, hc3, hc4, _⟩ := row_form h3
  have o1 := h1.alloc (.cells #[.int .u16 s, .bool o, .slice a B.length cap] 31)
  have oM := obj.new w 31 [.int .u16 s, .bool o, .slice a B.length cap]
  have c2 := o1.cell 2 rfl
  have c3 := o1.cell 3 rfl
  have c4 := o1.cell 4 rfl
  have m0 := oM.cell 0 rfl
  have m2 := oM.cell 2 rfl
  have r1 := hk.r1
  have r0 := hk.r0
  have u0 := hk.u0
  have u1 := hk.u1
  have k1 := hk.k1
  have s1 : IntKind.i64.wrap s = s := IntWalk.i64_in _ (by omega)
  have s2 : (B.length : Int) ≤ S.room → IntKind.i64.wrap (S.used + (B.length : Int)) = S.used + (B.length : Int) := fun h => IntWalk.i64_in _ (by omega)
  have S2 := Lib.hid s2
  clear s2
  have T := Lib.hid (turned_alloc (turned_refl w []) (.cells #[.int .u16 s, .bool o, .slice a B.length cap] 31))
  clear h1 h2 h3 h4 h5 hv hk o1 oM
  have hE : ∃ E, S.err s B.length un = E := ⟨_, rfl⟩
  obtain ⟨E, hE⟩ := hE
  rw [hE] at he ⊢
  unfold QS.err at hE
  generalize B.length = n' at *
  generalize S.ssn.length = ns at *
  by_cases g1 : un < 0
  · rw [if_pos g1] at hE
    subst hE
    have d1 : decide (un < 0) = true := decide_eq_true g1
    go_enter Try.func32, Try.ntmps32
    go_wp2_with fail
    go_ret2
    exact ⟨rfl, T.out⟩
  rw [if_neg g1] at hE
  have d1 : decide (un < 0) = false := decide_eq_false g1
  by_cases g2 : (ns : Int) ≤ s
  · rw [if_pos g2] at hE
    subst hE
    have d2 : decide ((ns : Int) ≤ s) = true := decide_eq_true g2
    go_enter Try.func32, Try.ntmps32
    go_wp2_with fail
    go_quiet (fail)
    go_wp2_with fail
    go_ret2
    exact ⟨rfl, turned_drewN' nq T.out⟩
  rw [if_neg g2] at hE
  have d2 : decide ((ns : Int) ≤ s) = false := decide_eq_false g2
  by_cases g3 : n' = 0 ∨ S.room < n'
  · rw [if_pos g3] at hE
    subst hE
    by_cases g4 : n' = 0
    · subst g4
      go_enter Try.func32, Try.ntmps32
      go_wp2_with fail
      go_quiet (fail)
      go_wp2_with fail
      go_quiet (fail)
      go_wp2_with fail
      go_ret2
      exact ⟨rfl, turned_drewN' nq (turned_drewN' _ T.out)⟩
    · have d3 : ((n' : Int) == 0) = false := beq_eq_false_iff_ne.2 (by omega)
      have d4 : decide (S.room < (n' : Int)) = true := decide_eq_true (by omega)
      go_enter Try.func32, Try.ntmps32
      go_wp2_with fail
      go_quiet (fail)
      go_wp2_with fail
      go_quiet (fail)
      go_wp2_with fail
      go_ret2
      exact ⟨rfl, turned_drewN' nq (turned_drewN' _ T.out)⟩
  rw [if_neg g3] at hE
  have d3 : ((n' : Int) == 0) = false := beq_eq_false_iff_ne.2 (by omega)
  have d4 : decide (S.room < (n' : Int)) = false := decide_eq_false (by omega)
  by_cases g5 : S.room - S.used < n'
  · rw [if_pos g5] at hE
    subst hE
    have d5 : decide (S.room < S.used + (n' : Int)) = true := decide_eq_true (by omega)
    have s3 := S2.out (by omega)
    go_enter Try.func32, Try.ntmps32
    go_wp2_with fail
    go_quiet (fail)
    go_wp2_with fail
    go_quiet (fail)
    go_wp2_with fail
    go_quiet (fail)
    go_wp2_with fail
    go_ret2
    exact ⟨rfl, turned_drewN' nq (turned_drewN' _ (turned_drewN' _ T.out))⟩
  · rw [if_neg g5] at hE
    exact absurd hE.symm he
end Go.Proofs.Ytibnjakiagcopaa
