/- Bytes copied. Conditions: the bytes lie in memory; at most 4000000. -/
import Derived.Test.YtcfpgeceenkheaaFragPlain
import Derived.Deep.RegionHeld3
namespace Go.Proofs.Ytcfpgeceenkheaa
open Go.RowKit Go.Deep
set_option linter.unusedVariables false
set_option linter.unusedSimpArgs false

def cpy (B : List Int) (j : Nat) : List Int := B.take j ++ List.replicate (B.length - j) 0
theorem cpy_len (B : List Int) (j : Nat) (h : j ≤ B.length) : (cpy B j).length = B.length := by simp [cpy]; omega
theorem cpy_set (B : List Int) (j : Nat) (h : j < B.length) : (cpy B j).set j (B[j]'h) = cpy B (j + 1) := by
  have e1 : (B.take j).length = j := by simp; omega
  unfold cpy
  rw [List.set_append_right _ _ (by omega), e1, Nat.sub_self, show B.length - j = (B.length - (j + 1)) + 1 by omega, List.replicate_succ, List.set_cons_zero, List.take_succ_eq_append_getElem h, List.append_assoc]
  rfl
theorem cpy_all (B : List Int) : cpy B B.length = B := by simp [cpy]
set_option maxRecDepth 100000 in
set_option maxHeartbeats 4000000 in
theorem copyb (v : Value) (B : List Int) (w : World) (hv : LiesB w v B) (hB : B.length ≤ 4000000) :
    Calls Try.prog 19 #[v] w fun e w' => ∃ a c, e = .returned (.slice a B.length c) ∧ w'.ownsRow w.heap.size 5 1 (.slice a B.length c) B.length (flat cB B) ∧ turned w w' [] := by
  obtain ⟨a, cap, rfl, hc1, hc2⟩ := hv.1.form
  obtain ⟨i0, hi0, hz0, hz1, hz2⟩ := info_parts infoB
  have hmk : ∀ w : World, (Instr.makeSlice 23 (.int .i64 (B.length : Int)) (.int .i64 (B.length : Int))).run Try.prog w = .ok (.slice (some ⟨w.heap.size, 0, none⟩) B.length B.length) (w.alloc (.cells (madeCells #[.int .u8 0] B.length) 5)) := fun w => by
    have := run_makeSlice (P := Try.prog) w 23 5 i0 (.int .u8 0) Try.underlying23 hi0 hz0 .i64 .i64 (B.length : Int) (B.length : Int) (by omega) (Int.le_refl _) (by rw [hz1]; omega) (by rw [hz2]; omega) (by omega)
    simpa [hz1, Value.cells] using this
  have hmo : (w.alloc (.cells (madeCells #[.int .u8 0] B.length) 5)).ownsRow w.heap.size 5 1 (.slice (some ⟨w.heap.size, 0, none⟩) B.length B.length) B.length (flat cB (cpy B 0)) := by
    have h := World.ownsRow_lit (base := w.heap.size) (e := 5) (size := 1) w (madeCells #[.int .u8 0] B.length) B.length (Nat.le_refl _) (by unfold maxLen; omega) (by rw [size_madeCells]; simp)
    have e : (madeCells #[.int .u8 0] B.length).toList = flat cB (cpy B 0) := by
      simp [madeCells, cpy, flat, cB, Nat.mod_one]
      rw [List.eq_replicate_iff]
      exact ⟨by simp, fun b hb => by simp at hb; exact hb.2.symm⟩
    rw [e] at h
    exact h
  have HV := Lib.hid hv
  have HMO := Lib.hid hmo
  clear hv hmo hi0 hz0 hz1 hz2
  by_cases h0 : B.length = 0
  · have hB0 : B = [] := List.eq_nil_of_length_eq_zero h0
    subst hB0
    clear hmk
    go_enter Try.func19, Try.ntmps19
    go_wp2
    go_ret
    exact ⟨_, _, rfl, World.ownsRow_nil _ _ _ _, turned_refl _ _⟩
  obtain ⟨n, hn⟩ : ∃ n, B.length = n := ⟨_, rfl⟩
  have HN := Lib.hid hn
  have hn0 : ¬ n = 0 := by omega
  rw [hn] at hmk hc1 hB
  rw [hn]
  clear hn h0
  go_enter Try.func19, Try.ntmps19
  go_wp2
  go_loopw [4] (fun i wr => ∃ j : Nat, j ≤ n ∧ i = .int .i64 (j : Int) ∧ wr.ownsRow w.heap.size 5 1 (.slice (some ⟨w.heap.size, 0, none⟩) n n) n (flat cB (cpy B j)) ∧ turned w wr [])
    (fun i _ => n - (intOf i).toNat)
  case atStart => exact ⟨0, Nat.zero_le _, rfl, by have := HMO.out; rw [HN.out] at this; exact this, turned_alloc (turned_refl w []) _⟩
  case round =>
    obtain ⟨j, hj, rfl, ho, tw⟩ := hrel
    have HO := Lib.hid ho
    have TW := Lib.hid tw
    clear ho tw
    by_cases hlt : j < n
    · have hjb : j < B.length := by rw [HN.out]; exact hlt
      have kb := HV.out.none_ TW.out
      rw [HN.out] at kb
      obtain ⟨b1, o1, rfl, hb1, c1⟩ := kb.cell j hjb
      obtain ⟨x, hx⟩ : ∃ x, B[j]'hjb = x := ⟨_, rfl⟩
      rw [hx] at c1
      have HX := Lib.hid hx
      clear hx kb
      have ef := HO.out.frozenAt j
      have ec := HO.out.cellAt j (by omega)
      rw [flatB_at _ j (by rw [cpy_len B j (by omega)]; exact hjb)] at ec
      have nb : ¬ b1 = w.heap.size := by
        have := hb1
        have hvv := HV.out
        rw [HN.out] at hvv
        obtain ⟨b2, o2, e, hb2, _⟩ := hvv.cell j hjb
        cases e
        omega
      go_wp2
      go_roundw
      case rel =>
        refine ⟨j + 1, by omega, by go_num, ?_, turned_setNew TW.out (Nat.le_refl _) _⟩
        have := (HO.out.stored j (.int .u8 x)).1
        have e := flat_set cB_len (cpy B j) j (by rw [cpy_len B j (by omega)]; exact hjb) 0 (by omega) (.int .u8 x) x rfl
        rw [Nat.mul_one, Nat.add_zero] at e
        rw [e, ← HX.out, cpy_set B j hjb] at this
        rw [← HX.out]
        exact this
      case measure => simp only [intOf]; omega
    · obtain rfl : j = n := by omega
      have ho := HO.out
      have e := cpy_all B
      rw [HN.out] at e
      rw [e] at ho
      have HO2 := Lib.hid ho
      clear ho HO
      go_wp2
      go_ret
      exact ⟨_, _, rfl, HO2.out, TW.out⟩
end Go.Proofs.Ytcfpgeceenkheaa
