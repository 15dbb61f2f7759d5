/- The document's queue: what is refused, its size, what waits. Conditions: the queue lies in memory. -/
import Derived.Test.YtibnjakiagcopaaOutqRef
namespace Go.Proofs.Ytibnjakiagcopaa
open Go.RowKit Go.Deep
set_option linter.unusedVariables false
set_option linter.unusedSimpArgs false

set_option maxHeartbeats 1000000 in
theorem rnew_bad (k r : Int) (h : ¬ (1 ≤ k ∧ k ≤ 16 ∧ 1 ≤ r ∧ r ≤ 1048576)) (w : World) :
    Calls Try.prog 17 #[.int .i64 k, .int .i64 r] w fun e w' => e = .returned (.tuple #[.pointer none, .int .i64 1]) ∧ w = w' := by
  by_cases h1 : k < 1
  · have d : decide (k < 1) = true := decide_eq_true h1
    go_enter Try.func17, Try.ntmps17
    go_wp2
    go_ret2
    exact ⟨rfl, rfl⟩
  by_cases h2 : 16 < k
  · have d : decide (k < 1) = false := decide_eq_false h1
    have d2 : decide (16 < k) = true := decide_eq_true h2
    go_enter Try.func17, Try.ntmps17
    go_wp2
    go_ret2
    exact ⟨rfl, rfl⟩
  by_cases h3 : r < 1
  · have d : decide (k < 1) = false := decide_eq_false h1
    have d2 : decide (16 < k) = false := decide_eq_false h2
    have d3 : decide (r < 1) = true := decide_eq_true h3
    go_enter Try.func17, Try.ntmps17
    go_wp2
    go_ret2
    exact ⟨rfl, rfl⟩
  · have d : decide (k < 1) = false := decide_eq_false h1
    have d2 : decide (16 < k) = false := decide_eq_false h2
    have d3 : decide (r < 1) = false := decide_eq_false h3
    have d4 : decide (1048576 < r) = true := decide_eq_true (by omega)
    go_enter Try.func17, Try.ntmps17
    go_wp2
    go_ret2
    exact ⟨rfl, rfl⟩
theorem flatY_at (Z : List YT) (i : Nat) (h : i < Z.length) (j : Nat) (hj : j < 7) : (flat cY Z)[i * 7 + j]? = (cIT (Z[i]'h).1 (Z[i]'h).2)[j]? := flat_at cY_len Z i h j hj
set_option maxHeartbeats 2000000 in
theorem rsize (b : Nat) (G : List Nat) (S : QS) (n : Nat) (w : World) (h : refIs w b G S) (hk : S.ok n) :
    Calls Try.prog 24 #[.pointer (some ⟨b, 0, none⟩)] w (Reads w (.int .i64 (S.size : Int))) := by
  obtain ⟨v, sv, Z, rfl, h1, h2, h3, h4, h5⟩ := h
  obtain ⟨a, c, rfl, hc1, hc2, ha⟩ := h2.form
  have c0 := h1.cell 0 rfl
  cases Z with
  | nil =>
    have hs : S.size = 0 := by unfold QS.size; rw [← h4]; rfl
    rw [hs]
    simp only [List.length_nil] at *
    clear h1 h2 h3 h4 h5 ha hk hs
    go_enter Try.func24, Try.ntmps24
    go_wp2
    go_ret
    exact ⟨rfl, 0, rfl⟩
  | cons z Z =>
    obtain ⟨bv, x⟩ := z
    have hL : S.L = x :: Z.map (·.2) := by rw [← h4]; rfl
    have hs : S.size = x.left := by unfold QS.size; rw [hL]
    rw [hs]
    obtain ⟨gi, off, rfl⟩ := ha (by simp)
    have hz := h5 (bv, x) (by simp)
    obtain ⟨ba, bc, hbv, hb1, hb2, _⟩ := row_form hz
    simp only at hbv
    subst hbv
    have e2 := h2.cellAt 2 (u := .slice ba x.B.length bc) rfl
    have e5 := h2.cellAt 5 (u := .int .i64 (x.at_ : Int)) rfl
    have hx := hk.it x (by rw [hL]; simp)
    have hb3 := hx.b1
    have hb4 := hx.a1
    have s1 : IntKind.i64.wrap ((x.B.length : Int) - (x.at_ : Int)) = (x.B.length : Int) - (x.at_ : Int) := IntWalk.i64_in _ (by omega)
    have s2 : ((x.B.length : Int) - (x.at_ : Int)) = (x.left : Int) := by unfold IT.left; omega
    have S2 := Lib.hid s2
    have d0 : (((((Value.slice ba x.B.length bc, x) :: Z).length : Nat) : Int) == 0) = false := beq_eq_false_iff_ne.2 (by simp only [List.length_cons]; omega)
    have d1 : 0 < ((Value.slice ba x.B.length bc, x) :: Z).length := by simp
    generalize hzn : ((Value.slice ba x.B.length bc, x) :: Z).length = zn at *
    clear h1 h2 h3 h4 h5 hk hs hL hz hx s2 ha
    go_enter Try.func24, Try.ntmps24
    go_wp2_with fail
    go_quiet (fail)
    go_wp2_with fail
    go_ret
    exact ⟨ret_int S2.out, _, rfl⟩
set_option maxRecDepth 100000 in
set_option maxHeartbeats 4000000 in
theorem rwait (b : Nat) (G : List Nat) (S : QS) (n : Nat) (w : World) (h : refIs w b G S) (hk : S.ok n) (hn : n ≤ 1000000) :
    Calls Try.prog 22 #[.pointer (some ⟨b, 0, none⟩)] w (Reads w (.int .i64 (S.wait : Int))) := by
  obtain ⟨v, sv, Z, rfl, h1, h2, h3, h4, h5⟩ := h
  obtain ⟨a, c, rfl, hc1, hc2, ha⟩ := h2.form
  have c0 := h1.cell 0 rfl
  have hZ : Z.length = S.L.length := by rw [← h4, List.length_map]
  have hl := hk.l
  have hle : ∀ x, x ∈ S.L.map IT.left → x ≤ 1048576 := fun x hx => by
    obtain ⟨y, hy, rfl⟩ := List.mem_map.1 hx
    have := (hk.it y hy).b1
    unfold IT.left
    omega
  have H2 := Lib.hid h2
  have H4 := Lib.hid h4
  have H5 := Lib.hid h5
  have HK := Lib.hid hk
  have HA := Lib.hid ha
  have HLE := Lib.hid hle
  have HZ := Lib.hid hZ
  have hzn : Z.length ≤ 1000000 := by omega
  clear h1 h2 h3 h4 h5 hk ha hle hZ hl
  go_enter Try.func22, Try.ntmps22
  go_wp2_with fail
  go_loopw [3, 4] (fun s i wr => ∃ j : Nat, j ≤ Z.length ∧ i = .int .i64 (j : Int) ∧ s = .int .i64 ((((S.L.map IT.left).take j).sum : Nat) : Int) ∧ ∃ m, wr = w.drewN m) (fun _ i _ => Z.length - (intOf i).toNat)
  case atStart => exact ⟨0, Nat.zero_le _, rfl, by simp, 0, rfl⟩
  case round =>
    obtain ⟨j, hj, rfl, rfl, m, rfl⟩ := hrel
    have c0' : (w.drewN m).cell? ⟨b, 0, none⟩ = some (.slice a Z.length c) := c0
    by_cases hlt : j < Z.length
    · obtain ⟨gi, off, rfl⟩ := HA.out (by omega)
      obtain ⟨z, hze⟩ : ∃ z, Z[j]'hlt = z := ⟨_, rfl⟩
      obtain ⟨bv, x⟩ := z
      have hz := H5.out _ (List.getElem_mem hlt)
      rw [hze] at hz
      obtain ⟨ba, bc, hbv, hb1, hb2, _⟩ := row_form hz
      simp only at hbv
      subst hbv
      have e2 : w.cell? ⟨gi, off + j * 7 + 2, none⟩ = some (.slice ba x.B.length bc) := by
        have := H2.out.cellAt (j * 7 + 2) (u := .slice ba x.B.length bc) (by rw [flatY_at Z j hlt 2 (by omega), hze]; rfl)
        rw [← Nat.add_assoc] at this
        exact this
      have e5 : w.cell? ⟨gi, off + j * 7 + 5, none⟩ = some (.int .i64 (x.at_ : Int)) := by
        have := H2.out.cellAt (j * 7 + 5) (u := .int .i64 (x.at_ : Int)) (by rw [flatY_at Z j hlt 5 (by omega), hze]; rfl)
        rw [← Nat.add_assoc] at this
        exact this
      have hjl : j < (S.L.map IT.left).length := by rw [List.length_map, ← HZ.out]; exact hlt
      have hst := sum_take (S.L.map IT.left) j hjl
      have hxl : S.L[j]'(by rw [← HZ.out]; exact hlt) = x := by simp only [← H4.out, List.getElem_map, hze]
      rw [List.getElem_map, hxl] at hst
      have hx := HK.out.it x (by rw [← hxl]; exact List.getElem_mem _)
      have hsm : ((S.L.map IT.left).take j).sum ≤ 1000000 * 1048576 := by
        have q1 := sum_le (L := (S.L.map IT.left).take j) (m := 1048576) (fun x hx => HLE.out x (List.mem_of_mem_take hx))
        have q2 : ((S.L.map IT.left).take j).length ≤ 1000000 := by rw [List.length_take]; omega
        exact Nat.le_trans q1 (Nat.mul_le_mul_right _ q2)
      have hb3 := hx.b1
      have hb4 := hx.a1
      have hji : (j : Int) < (Z.length : Int) := by omega
      have hj0 : (0 : Int) ≤ (j : Int) := by omega
      have HST := Lib.hid hst
      have hlf : (x.left : Int) = (x.B.length : Int) - (x.at_ : Int) := by unfold IT.left; omega
      have HLF := Lib.hid hlf
      clear hst hxl hx hz hze hlf
      generalize ((S.L.map IT.left).take j).sum = sm at *
      have s1 : IntKind.i64.wrap ((sm : Int) + (x.B.length : Int)) = (sm : Int) + (x.B.length : Int) := IntWalk.i64_in _ (by omega)
      have s2 : IntKind.i64.wrap ((sm : Int) + (x.B.length : Int) - (x.at_ : Int)) = (sm : Int) + (x.B.length : Int) - (x.at_ : Int) := IntWalk.i64_in _ (by omega)
      go_wp2_with fail
      go_quiet (fail)
      go_wp2_with fail
      go_roundw
      case rel => exact ⟨j + 1, by omega, by go_num, by rw [HST.out]; have := HLF.out; congr 1; omega, _, rfl⟩
      case measure => simp only [intOf]; omega
    · have hjn : j = Z.length := by omega
      subst hjn
      have he : ((S.L.map IT.left).take Z.length).sum = S.wait := by
        unfold QS.wait
        rw [List.take_of_length_le (by rw [List.length_map, HZ.out]; exact Nat.le_refl _)]
      rw [he]
      clear he
      go_wp2
      go_ret
      exact ⟨rfl, m, rfl⟩
end Go.Proofs.Ytibnjakiagcopaa
