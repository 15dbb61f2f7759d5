/- A message more. Conditions: the queue lies in memory and has room. -/
import Derived.Test.YtibnjakiagcopaaOutqNew
namespace Go.Proofs.Ytibnjakiagcopaa
open Go.RowKit Go.Deep
set_option linter.unusedVariables false
set_option linter.unusedSimpArgs false

section
variable {P : Program}
/-- 'append(s, x...)' at a step of a region that draws its order, onto a slice that begins anywhere in an own block. -/
theorem step_append_off (w : World) {ops : Array Oper} {o : Oper} {a : Act} {K : Act → World → Prop} {Q : Exit → Act → World → Prop} {E : Prop} (hgd : o.guard = none) (s x : Operand) (t : TypeId)
    (ho : o.op = .call { callee := .builtin .append, args := #[s, x], argTypes := #[t, t] })
    (base : Nat) (e : TypeId) (i : TypeInfo) (z : Value) (size bytes : Nat) (ht : P.underlying t = some (.slice e)) (hi : P.info? e = some i) (hz : i.zero = some z)
    (hsize : i.size = size) (hby : i.bytes = bytes) (hzs : z.cells.size = size) (hsz : 0 < size)
    (v : Value) (n : Nat) (xs : List Value) (hs : a.eval s = v) (hown : offRow w base e size v n xs)
    (y : Value) (m : Nat) (news : List Value) (hx : a.eval x = y) (hr : Lies w size y m news) (h1 : ∀ u ∈ news, u.oneCell' = true)
    (h63 : n + m ≤ maxLen) (hbytes : (n + m) * bytes ≤ 140737488355328) (hbase : base ≤ w.heap.size)
    (h : ∀ v' w', offRow w' base e size v' (n + m) (xs ++ news) → w.grownBy w' v.ownBlock → (v'.ownBlock = v.ownBlock ∨ ∀ k, v'.ownBlock = some k → w.heap.size ≤ k) → K (a.put o.dst v') w') :
    if Region.wanted o (yielded ops a.tmps) = true then Oper.wp P o a w K Q else E := by
  have hw : Region.wanted o (yielded ops a.tmps) = true := by simp [Region.wanted, hgd]
  rw [if_pos hw]
  obtain ⟨v', w', hrun, h2, h3, h4⟩ := run_append_off (P := P) w base t o.type e i z size bytes ht hi hz hsize hby hzs hsz v n xs hown y m news hr h1 h63 hbytes hbase
  unfold Oper.wp execOp
  simp only [ho, resolve, invoke, builtin, Sem.run_bind, Sem.run_pure, Result.andThen_ok, List.map_toArray, List.map_cons, List.map_nil, hs, hx, hrun]
  exact h v' w' h2 h3 h4
end
theorem infoP : (Try.prog.info? 67).map (fun i => (i.zero, i.size, i.bytes)) = some (some (.pointer none), 1, 8) := by kernel_rfl
/-- A message that is taken. -/
def IT.new (S : QS) (s : Int) (o : Bool) (B : List Int) (un : Int) : IT := ⟨s, o, B, S.many, un, 0, 0⟩
def QS.put (S : QS) (s : Int) (o : Bool) (B : List Int) (un : Int) : QS := { S with L := S.L ++ [IT.new S s o B un], many := S.many + 1, used := S.used + B.length }
theorem QS.put_ok {S : QS} {n : Nat} (h : S.ok n) (s : Int) (o : Bool) (B : List Int) (un : Int) (hs : 0 ≤ s ∧ s < S.ssn.length) (hB : bytes B) (h1 : 1 ≤ B.length) (h2 : S.used + B.length ≤ S.room) (hu : 0 ≤ un ∧ un ≤ 9223372036854775807) (hn : n ≤ 1000000) : (S.put s o B un).ok (n + 1) where
  l := by have := h.l; simp [QS.put]; omega
  m0 := by have := h.m0; show 0 ≤ S.many + 1; omega
  m1 := by have := h.m1; show S.many + 1 ≤ ((n + 1 : Nat) : Int); omega
  r0 := h.r0
  r1 := h.r1
  u0 := by have := h.u0; show 0 ≤ S.used + (B.length : Int); omega
  u1 := h2
  k0 := h.k0
  k1 := h.k1
  ks := h.ks
  it := by
    intro x hx
    simp only [QS.put, List.mem_append, List.mem_singleton] at hx
    rcases hx with hx | rfl
    · exact h.it x hx
    · have := h.r1
      have := h.u0
      have := h.m0
      have := h.m1
      exact ⟨hs.1, hs.2, h1, by show B.length ≤ _; omega, by show 0 < B.length; omega, by show 0 ≤ S.many; omega, by show S.many ≤ _; omega, hu.1, hu.2, Int.le_refl _, by show (0 : Int) < 65536; omega, hB⟩
/-- What keeps a message from being taken (0: nothing). -/
def QS.err (S : QS) (s : Int) (len : Nat) (un : Int) : Int :=
  if un < 0 then 1 else if (S.ssn.length : Int) ≤ s then 4 else if len = 0 ∨ S.room < len then 5 else if S.room - S.used < len then 6 else 0
set_option maxRecDepth 100000 in
set_option maxHeartbeats 4000000 in
theorem oput_no (b : Nat) (F : List Nat) (S : QS) (n : Nat) (s : Int) (o : Bool) (mv : Value) (B : List Int) (un : Int) (w : World) (h : outIs w b F S) (hk : S.ok n) (hv : LiesB w mv B) (hB : B.length ≤ 9223372036854775807) (hs : 0 ≤ s ∧ s < 65536) (he : S.err s B.length un ≠ 0) :
    Calls Try.prog 10 #[.pointer (some ⟨b, 0, none⟩), .agg #[.int .u16 s, .bool o, mv], .int .i64 un] w fun e w' => e = .returned (.tuple #[.int .i64 0, .int .i64 (S.err s B.length un)]) ∧ turned w w' [] := by
  obtain ⟨v, sv, Z, rfl, h1, h2, h3, h4, h5, h6⟩ := h
  obtain ⟨a, cap, rfl, hc1, hc2⟩ := hv.1.form
  obtain ⟨a2, cap2, rfl, hc3, hc4, _⟩ := row_form h3
  have o1 := h1.alloc (.cells #[.int .u16 s, .bool o, .slice a B.length cap] 31)
  have oM := obj.new w 31 [.int .u16 s, .bool o, .slice a B.length cap]
  have c2 := o1.cell 2 rfl
  have c3 := o1.cell 3 rfl
  have c4 := o1.cell 4 rfl
  have m0 := oM.cell 0 rfl
  have m2 := oM.cell 2 rfl
  have r1 := hk.r1
  have r0 := hk.r0
  have u0 := hk.u0
  have u1 := hk.u1
  have k1 := hk.k1
  have s1 : IntKind.i64.wrap s = s := IntWalk.i64_in _ (by omega)
  have s2 : IntKind.i64.wrap (S.room - S.used) = S.room - S.used := IntWalk.i64_in _ (by omega)
  have T := Lib.hid (turned_alloc (turned_refl w []) (.cells #[.int .u16 s, .bool o, .slice a B.length cap] 31))
  clear h1 h2 h3 h4 h5 h6 hv hk o1 oM
  have hE : ∃ E, S.err s B.length un = E := ⟨_, rfl⟩
  obtain ⟨E, hE⟩ := hE
  rw [hE] at he ⊢
  unfold QS.err at hE
  generalize B.length = n' at *
  generalize S.ssn.length = ns at *
  by_cases g1 : un < 0
  · rw [if_pos g1] at hE
    subst hE
    have d1 : decide (un < 0) = true := decide_eq_true g1
    go_enter Try.func10, Try.ntmps10
    go_wp2_with fail
    go_ret2
    exact ⟨rfl, T.out⟩
  rw [if_neg g1] at hE
  have d1 : decide (un < 0) = false := decide_eq_false g1
  by_cases g2 : (ns : Int) ≤ s
  · rw [if_pos g2] at hE
    subst hE
    have d2 : decide ((ns : Int) ≤ s) = true := decide_eq_true g2
    go_enter Try.func10, Try.ntmps10
    go_wp2_with fail
    go_quiet (fail)
    go_wp2_with fail
    go_ret2
    exact ⟨rfl, turned_drewN' nq T.out⟩
  rw [if_neg g2] at hE
  have d2 : decide ((ns : Int) ≤ s) = false := decide_eq_false g2
  by_cases g3 : n' = 0 ∨ S.room < n'
  · rw [if_pos g3] at hE
    subst hE
    by_cases g4 : n' = 0
    · subst g4
      go_enter Try.func10, Try.ntmps10
      go_wp2_with fail
      go_quiet (fail)
      go_wp2_with fail
      go_quiet (fail)
      go_wp2_with fail
      go_ret2
      exact ⟨rfl, turned_drewN' nq (turned_drewN' _ T.out)⟩
    · have d3 : ((n' : Int) == 0) = false := beq_eq_false_iff_ne.2 (by omega)
      have d4 : decide (S.room < (n' : Int)) = true := decide_eq_true (by omega)
      go_enter Try.func10, Try.ntmps10
      go_wp2_with fail
      go_quiet (fail)
      go_wp2_with fail
      go_quiet (fail)
      go_wp2_with fail
      go_ret2
      exact ⟨rfl, turned_drewN' nq (turned_drewN' _ T.out)⟩
  rw [if_neg g3] at hE
  have d3 : ((n' : Int) == 0) = false := beq_eq_false_iff_ne.2 (by omega)
  have d4 : decide (S.room < (n' : Int)) = false := decide_eq_false (by omega)
  by_cases g5 : S.room - S.used < n'
  · rw [if_pos g5] at hE
    subst hE
    have d5 : decide (S.room - S.used < (n' : Int)) = true := decide_eq_true g5
    go_enter Try.func10, Try.ntmps10
    go_wp2_with fail
    go_quiet (fail)
    go_wp2_with fail
    go_quiet (fail)
    go_wp2_with fail
    go_quiet (fail)
    go_wp2_with fail
    go_ret2
    exact ⟨rfl, turned_drewN' nq (turned_drewN' _ (turned_drewN' _ T.out))⟩
  · rw [if_neg g5] at hE
    exact absurd hE.symm he
end Go.Proofs.Ytibnjakiagcopaa
