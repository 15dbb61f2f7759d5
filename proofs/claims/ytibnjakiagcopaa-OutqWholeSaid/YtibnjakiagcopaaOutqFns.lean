/- Small methods of a queue of messages. Conditions: the queue lies in memory. -/
import Derived.Test.YtibnjakiagcopaaOutq
import Derived.Laws.MakeOwn
namespace Go.Proofs.Ytibnjakiagcopaa
open Go.RowKit Go.Deep
set_option linter.unusedVariables false
set_option linter.unusedSimpArgs false

set_option maxHeartbeats 2000000 in
theorem oleft (g : Nat) (bv : Value) (x : IT) (w : World) (h : itemIs w (g, bv, x)) (h1 : x.B.length ≤ 1048576) (h2 : x.at_ ≤ x.B.length) :
    Calls Try.prog 28 #[.pointer (some ⟨g, 0, none⟩)] w (Reads w (.int .i64 (x.left : Int))) := by
  obtain ⟨ho, hr⟩ := h
  obtain ⟨ba, bc, hbv, hc1, hc2, _⟩ := row_form hr
  simp only at hbv ho
  subst hbv
  have c2 := ho.cell 2 rfl
  have c5 := ho.cell 5 rfl
  have s1 : IntKind.i64.wrap ((x.B.length : Int) - (x.at_ : Int)) = (x.B.length : Int) - (x.at_ : Int) := IntWalk.i64_in _ (by omega)
  have s2 : ((x.B.length : Int) - (x.at_ : Int)) = (x.left : Int) := by unfold IT.left; omega
  have S2 := Lib.hid s2
  clear ho hr hc1 hc2 s2
  go_enter Try.func28, Try.ntmps28
  go_wp2_with fail
  go_quiet (fail)
  go_wp2_with fail
  go_ret
  exact ⟨ret_int S2.out, _, rfl⟩
theorem outIs.used {w : World} {b : Nat} {F : List Nat} {S : QS} (h : outIs w b F S) : ∃ v sv, obj w b 65 [v, .int .i64 S.many, .int .i64 S.room, .int .i64 S.used, sv] := by
  obtain ⟨v, sv, Z, _, h, _⟩ := h; exact ⟨v, sv, h⟩
set_option maxHeartbeats 1000000 in
theorem oused (b : Nat) (F : List Nat) (S : QS) (w : World) (h : outIs w b F S) :
    Calls Try.prog 14 #[.pointer (some ⟨b, 0, none⟩)] w fun e w' => e = .returned (.int .i64 S.used) ∧ w = w' := by
  obtain ⟨v, sv, ho⟩ := h.used
  have c3 := ho.cell 3 rfl
  clear ho h
  go_enter Try.func14, Try.ntmps14
  go_wp2
  go_ret
  exact ⟨rfl, rfl⟩
set_option maxHeartbeats 1000000 in
theorem oused_nil (w : World) :
    Calls Try.prog 14 #[.pointer none] w fun e w' => e = .returned (.int .i64 0) ∧ w = w' := by
  go_enter Try.func14, Try.ntmps14
  go_wp2
  go_ret
  exact ⟨rfl, rfl⟩
/-- What the front has left. -/
def QS.size (S : QS) : Nat := match S.L with | [] => 0 | x :: _ => x.left
/-- The front in memory. -/
theorem outIs.front {w : World} {b : Nat} {F : List Nat} {S : QS} {x : IT} {L : List IT} (h : outIs w b F S) (hl : S.L = x :: L) : ∃ g bv gi off n cap sv, obj w b 65 [.slice (some ⟨gi, off, none⟩) n cap, .int .i64 S.many, .int .i64 S.room, .int .i64 S.used, sv] ∧ n = L.length + 1 ∧ n ≤ cap ∧ cap ≤ 9223372036854775807 ∧ w.cell? ⟨gi, off, none⟩ = some (.pointer (some ⟨g, 0, none⟩)) ∧ itemIs w (g, bv, x) := by
  obtain ⟨v, sv, Z, rfl, h1, h2, h3, h4, h5, h6⟩ := h
  cases Z with
  | nil => rw [hl] at h4; simp at h4
  | cons z Z =>
    rw [hl] at h4
    simp only [List.map_cons, List.cons.injEq] at h4
    obtain ⟨a, c, rfl, hc1, hc2, ha⟩ := h2.form
    obtain ⟨gi, off, rfl⟩ := ha (by simp)
    have e0 := h2.cellAt 0 (u := .pointer (some ⟨z.1, 0, none⟩)) rfl
    rw [Nat.add_zero] at e0
    have hz := h5 z (by simp)
    have hlen : Z.length = L.length := by rw [← h4.2, List.length_map]
    refine ⟨z.1, z.2.1, gi, off, _, c, sv, h1, by rw [List.length_cons, hlen], hc1, hc2, e0, ?_⟩
    rw [← h4.1]
    exact hz
theorem outIs.empty {w : World} {b : Nat} {F : List Nat} {S : QS} (h : outIs w b F S) (hl : S.L = []) : ∃ a cap sv, obj w b 65 [.slice a 0 cap, .int .i64 S.many, .int .i64 S.room, .int .i64 S.used, sv] := by
  obtain ⟨v, sv, Z, rfl, h1, h2, h3, h4, h5, h6⟩ := h
  cases Z with
  | nil =>
    obtain ⟨a, c, rfl, hc1, hc2, ha⟩ := h2.form
    exact ⟨a, c, sv, h1⟩
  | cons z Z => rw [hl] at h4; simp at h4
set_option maxHeartbeats 2000000 in
theorem osize (b : Nat) (F : List Nat) (S : QS) (n : Nat) (w : World) (h : outIs w b F S) (hk : S.ok n) :
    Calls Try.prog 23 #[.pointer (some ⟨b, 0, none⟩)] w (Reads w (.int .i64 (S.size : Int))) := by
  cases hl : S.L with
  | nil =>
    have hs : S.size = 0 := by unfold QS.size; rw [hl]
    rw [hs]
    obtain ⟨a, cap, sv, ho⟩ := h.empty hl
    have c0 := ho.cell 0 rfl
    clear ho h hk hl hs
    go_enter Try.func23, Try.ntmps23
    go_wp2
    go_ret
    exact ⟨rfl, 0, rfl⟩
  | cons x L =>
    have hs : S.size = x.left := by unfold QS.size; rw [hl]
    rw [hs]
    obtain ⟨g, bv, gi, off, m, cap, sv, ho, hm, hmc, hcc, e0, hi⟩ := h.front hl
    have hx := hk.it x (by rw [hl]; simp)
    have c0 := ho.cell 0 rfl
    have d0 : ((m : Int) == 0) = false := beq_eq_false_iff_ne.2 (by omega)
    have d1 : 0 < m := by omega
    have HI := Lib.hid hi
    have HX := Lib.hid hx
    clear ho h hk hl hs hm hi hx
    go_enter Try.func23, Try.ntmps23
    go_wp2_with fail
    refine (oleft g bv x w HI.out HX.out.b1 (Nat.le_of_lt HX.out.a1)).mono ?_
    rintro e w' ⟨rfl, k, rfl⟩
    go_wp2
    go_ret
    exact ⟨rfl, k, rfl⟩
set_option maxHeartbeats 1000000 in
theorem osize_nil (w : World) :
    Calls Try.prog 23 #[.pointer none] w fun e w' => e = .returned (.int .i64 0) ∧ w = w' := by
  go_enter Try.func23, Try.ntmps23
  go_wp2
  go_ret
  exact ⟨rfl, rfl⟩
/-- What Free leaves of what is used. -/
def freed (used n : Int) : Int := used - min (max n 0) used
theorem foot_b (b : Nat) (v sv : Value) (Z : List ZT) : b ∈ foot b v sv Z := by simp [foot]
/-- The queue's own number is written. -/
theorem setUsed {w : World} {b : Nat} {v sv : Value} {Z : List ZT} {S : QS} (u V : Int) (hV : V = u) (h1 : obj w b 65 [v, .int .i64 S.many, .int .i64 S.room, .int .i64 S.used, sv]) (h2 : offRow w 0 67 1 v Z.length (flat cP (Z.map (·.1)))) (h3 : w.ownsRow 0 22 1 sv S.ssn.length (flat cN S.ssn)) (h4 : Z.map (·.2.2) = S.L) (h5 : ∀ z, z ∈ Z → itemIs w z) (h6 : (Z.map (·.1)).Nodup) :
    outIs (w.setCell ⟨b, 3, none⟩ (.int .i64 V)) b (foot b v sv Z) { S with used := u } ∧ turned w (w.setCell ⟨b, 3, none⟩ (.int .i64 V)) (foot b v sv Z) := by
  subst hV
  have t : turned w (w.setCell ⟨b, 3, none⟩ (.int .i64 V)) [b] := turned_set (turned_refl _ _) (List.mem_singleton.2 rfl) _
  have n2 := h2.ne h1 (by decide)
  have n3 := row_ne h3 h1 (by decide)
  refine ⟨⟨v, sv, Z, rfl, h1.set 3 _, h2.past t (fun g e k => n2 ?_), row_past h3 t (fun g e k => n3 ?_), h4, fun z hz => (h5 z hz).past t (fun k => ?_) (fun g e k => row_ne (h5 z hz).2 h1 (by decide) ?_), h6⟩, turned_more t (fun k hk => ?_)⟩
  · rw [e, List.mem_singleton.1 k]
  · rw [e, List.mem_singleton.1 k]
  · exact (h5 z hz).1.ne h1 (by decide) (List.mem_singleton.1 k)
  · rw [e, List.mem_singleton.1 k]
  · rw [List.mem_singleton.1 hk]; exact foot_b _ _ _ _
set_option maxHeartbeats 2000000 in
theorem ofree (b : Nat) (F : List Nat) (S : QS) (k : Nat) (n : Int) (w : World) (h : outIs w b F S) (hk : S.ok k) :
    Calls Try.prog 25 #[.pointer (some ⟨b, 0, none⟩), .int .i64 n] w fun e w' => e = .returned (.tuple #[]) ∧ outIs w' b F { S with used := freed S.used n } ∧ turned w w' F := by
  obtain ⟨v, sv, Z, rfl, h1, h2, h3, h4, h5, h6⟩ := h
  have c3 := h1.cell 3 rfl
  have f3 := h1.free 3
  have u0 := hk.u0
  have u1 := hk.u1
  have r1 := hk.r1
  have hmin : 0 ≤ min (max n 0) S.used ∧ min (max n 0) S.used ≤ S.used := by omega
  have s1 : IntKind.i64.wrap (S.used - min (max n 0) S.used) = S.used - min (max n 0) S.used := IntWalk.i64_in _ (by omega)
  have HS := Lib.hid (fun V hV => setUsed (S := S) (freed S.used n) V hV h1 h2 h3 h4 h5 h6)
  clear h1 h2 h3 h4 h5 h6 hk
  go_enter Try.func25, Try.ntmps25
  go_wp2_with fail
  go_region
  go_wp2_with fail
  all_goals go_end0
  all_goals refine ⟨rfl, outIs.past (HS.out _ ?_).1 (turned_drew _ []) (by simp), turned_drew' (HS.out _ ?_).2⟩
  all_goals (unfold freed; omega)
set_option maxHeartbeats 1000000 in
theorem ofree_nil (n : Int) (w : World) :
    Calls Try.prog 25 #[.pointer none, .int .i64 n] w fun e w' => e = .returned (.tuple #[]) ∧ w = w' := by
  go_enter Try.func25, Try.ntmps25
  go_wp2
  go_end0
  exact ⟨rfl, rfl⟩
set_option maxHeartbeats 1000000 in
theorem owait_nil (w : World) :
    Calls Try.prog 21 #[.pointer none] w fun e w' => e = .returned (.int .i64 0) ∧ w = w' := by
  go_enter Try.func21, Try.ntmps21
  go_wp2
  go_ret
  exact ⟨rfl, rfl⟩
theorem sum_take (L : List Nat) (j : Nat) (h : j < L.length) : (L.take (j + 1)).sum = (L.take j).sum + L[j]'h := by
  rw [List.take_succ_eq_append_getElem h, List.sum_append]
  simp
theorem sum_le {L : List Nat} {m : Nat} (h : ∀ x, x ∈ L → x ≤ m) : L.sum ≤ L.length * m := by
  induction L with
  | nil => simp
  | cons x L ih =>
    rw [List.sum_cons, List.length_cons, Nat.add_mul, Nat.one_mul]
    have := ih (fun y hy => h y (by simp [hy]))
    have := h x (by simp)
    omega
set_option maxRecDepth 100000 in
set_option maxHeartbeats 4000000 in
theorem owait (b : Nat) (F : List Nat) (S : QS) (n : Nat) (w : World) (h : outIs w b F S) (hk : S.ok n) (hn : n ≤ 1000000) :
    Calls Try.prog 21 #[.pointer (some ⟨b, 0, none⟩)] w (Reads w (.int .i64 (S.wait : Int))) := by
  obtain ⟨v, sv, Z, rfl, h1, h2, h3, h4, h5, h6⟩ := h
  obtain ⟨a, c, rfl, hc1, hc2, ha⟩ := h2.form
  have c0 := h1.cell 0 rfl
  have hZ : Z.length = S.L.length := by rw [← h4, List.length_map]
  have hl := hk.l
  have hle : ∀ x, x ∈ S.L.map IT.left → x ≤ 1048576 := fun x hx => by
    obtain ⟨y, hy, rfl⟩ := List.mem_map.1 hx
    have := (hk.it y hy).b1
    unfold IT.left
    omega
  have H2 := Lib.hid h2
  have H4 := Lib.hid h4
  have H5 := Lib.hid h5
  have HK := Lib.hid hk
  have HA := Lib.hid ha
  have HLE := Lib.hid hle
  have HZ := Lib.hid hZ
  have hzn : Z.length ≤ 1000000 := by omega
  clear h1 h2 h3 h4 h5 h6 hk ha hle hZ hl
  go_enter Try.func21, Try.ntmps21
  go_wp2_with fail
  go_loopw [3, 13] (fun s i wr => ∃ j : Nat, j ≤ Z.length ∧ i = .int .i64 (j : Int) ∧ s = .int .i64 ((((S.L.map IT.left).take j).sum : Nat) : Int) ∧ ∃ m, wr = w.drewN m) (fun _ i _ => Z.length - (intOf i).toNat)
  case atStart => exact ⟨0, Nat.zero_le _, rfl, by simp, 0, rfl⟩
  case round =>
    obtain ⟨j, hj, rfl, rfl, m, rfl⟩ := hrel
    by_cases hlt : j < Z.length
    · obtain ⟨gi, off, rfl⟩ := HA.out (by omega)
      have e0 := H2.out.cellAt j (flatP_at _ j (by simpa using hlt))
      have hz := H5.out _ (List.getElem_mem hlt)
      have hjl : j < (S.L.map IT.left).length := by rw [List.length_map, ← HZ.out]; exact hlt
      have hst := sum_take (S.L.map IT.left) j hjl
      have hxl : Z[j].2.2 = S.L[j]'(by rw [← HZ.out]; exact hlt) := by simp only [← H4.out, List.getElem_map]
      have hsm : ((S.L.map IT.left).take j).sum ≤ 1000000 * 1048576 := by
        have h1 := sum_le (L := (S.L.map IT.left).take j) (m := 1048576) (fun x hx => HLE.out x (List.mem_of_mem_take hx))
        have h2 : ((S.L.map IT.left).take j).length ≤ 1000000 := by rw [List.length_take]; omega
        exact Nat.le_trans h1 (Nat.mul_le_mul_right _ h2)
      have hx := HK.out.it Z[j].2.2 (by rw [hxl]; exact List.getElem_mem _)
      rw [List.getElem_map, ← hxl] at hst
      simp only [List.getElem_map] at e0
      have hlm := HLE.out Z[j].2.2.left (by rw [hxl]; exact List.mem_map.2 ⟨_, List.getElem_mem _, rfl⟩)
      have e0' : (w.drewN m).cell? ⟨gi, off + j, none⟩ = some (.pointer (some ⟨Z[j].1, 0, none⟩)) := e0
      have HST := Lib.hid hst
      have HI := Lib.hid (show itemIs (w.drewN m) (Z[j].1, Z[j].2.1, Z[j].2.2) from hz.past (turned_drewN w m []) (by simp) (by simp))
      have HX := Lib.hid hx
      clear e0 hz hst hxl hx
      generalize Z[j].1 = g at *
      generalize Z[j].2.1 = bv at *
      generalize Z[j].2.2 = x at *
      generalize ((S.L.map IT.left).take j).sum = sm at *
      have s1 : IntKind.i64.wrap ((sm : Int) + (x.left : Int)) = (sm : Int) + (x.left : Int) := IntWalk.i64_in _ (by omega)
      go_wp2_with fail
      refine (oleft g bv x _ HI.out HX.out.b1 (Nat.le_of_lt HX.out.a1)).mono ?_
      rintro e w' ⟨rfl, k, rfl⟩
      go_wp2_with fail
      go_roundw
      case rel => exact ⟨j + 1, by omega, by go_num, by rw [HST.out]; go_num, m + k, rfl⟩
      case measure => simp only [intOf]; omega
    · have hjn : j = Z.length := by omega
      subst hjn
      have he : ((S.L.map IT.left).take Z.length).sum = S.wait := by
        unfold QS.wait
        rw [List.take_of_length_le (by rw [List.length_map, HZ.out]; exact Nat.le_refl _)]
      rw [he]
      clear he
      go_wp2
      go_ret
      exact ⟨rfl, m, rfl⟩
end Go.Proofs.Ytibnjakiagcopaa
