/- Bytes compared, copied; messages compared; the anchor. Conditions: the bytes lie in memory; at most 4000000. -/
import Derived.Test.YtcfpgeceenkheaaFragMade
import Derived.Deep.RegionHeld3
namespace Go.Proofs.Ytcfpgeceenkheaa
open Go.RowKit Go.Deep
set_option linter.unusedVariables false
set_option linter.unusedSimpArgs false

theorem nat_xor0 (p q : Nat) : p ^^^ q = 0 ↔ p = q := by
  constructor
  · intro h
    have e : (p ^^^ q) ^^^ q = p := by rw [Nat.xor_assoc, Nat.xor_self, Nat.xor_zero]
    rw [h, Nat.zero_xor] at e
    exact e.symm
  · rintro rfl
    exact Nat.xor_self p
theorem take_eq_succ {A B : List Int} {j : Nat} (ha : j < A.length) (hb : j < B.length) : A.take (j + 1) = B.take (j + 1) ↔ A.take j = B.take j ∧ A[j]'ha = B[j]'hb := by
  rw [List.take_succ_eq_append_getElem ha, List.take_succ_eq_append_getElem hb]
  constructor
  · intro h
    have := List.append_inj' h rfl
    exact ⟨this.1, by simpa using this.2⟩
  · rintro ⟨h1, h2⟩
    rw [h1, h2]

set_option maxRecDepth 100000 in
set_option maxHeartbeats 4000000 in
theorem eqb (a b : Value) (A B : List Int) (w : World) (ha : LiesB w a A) (hb : LiesB w b B) (hA : A.length ≤ 4000000) (hB : B.length ≤ 4000000) :
    Calls Try.prog 23 #[a, b] w (Reads w (.bool (decide (A = B)))) := by
  obtain ⟨aa, ac, rfl, ha1, ha2⟩ := ha.1.form
  obtain ⟨ba, bc, rfl, hb1, hb2⟩ := hb.1.form
  have HA := Lib.hid ha
  have HB := Lib.hid hb
  clear ha hb
  by_cases hne : A.length = B.length
  · have hn0 : ((A.length : Int) != (B.length : Int)) = false := by rw [hne]; simp
    have HNE := Lib.hid hne
    obtain ⟨n, hn⟩ : ∃ n, A.length = n := ⟨_, rfl⟩
    have hnb : B.length = n := by omega
    rw [hn] at ha1 hA
    rw [hnb] at hb1
    rw [hn, hnb]
    have HN := Lib.hid hn
    have HNB := Lib.hid hnb
    clear hn hnb hne hn0 hB
    go_enter Try.func23, Try.ntmps23
    go_wp2
    go_loopw [6, 7] (fun x i wr => ∃ j xv : Nat, j ≤ n ∧ x = .int .u8 (xv : Int) ∧ xv < 256 ∧ (xv = 0 ↔ A.take j = B.take j) ∧ i = .int .i64 (j : Int) ∧ ∃ m, wr = w.drewN m)
      (fun _ i _ => n - (intOf i).toNat)
    case atStart => exact ⟨0, 0, Nat.zero_le _, rfl, by omega, by simp, rfl, 0, rfl⟩
    case round =>
      obtain ⟨j, xv, hj, rfl, hx1, hx2, rfl, m, rfl⟩ := hrel
      have HX2 := Lib.hid hx2
      clear hx2
      by_cases hlt : j < n
      · have hja : j < A.length := by rw [HN.out]; exact hlt
        have hjb : j < B.length := by rw [HNB.out]; exact hlt
        have ka := HA.out
        have kb := HB.out
        rw [HN.out] at ka
        rw [HNB.out] at kb
        obtain ⟨b1, o1, rfl, hb1', c1⟩ := ka.cell j hja
        obtain ⟨b2, o2, rfl, hb2', c2⟩ := kb.cell j hjb
        have ra := HA.out.2 _ (List.getElem_mem hja)
        have rb := HB.out.2 _ (List.getElem_mem hjb)
        obtain ⟨p, hp⟩ : ∃ p : Nat, A[j]'hja = (p : Int) := ⟨(A[j]'hja).toNat, by omega⟩
        obtain ⟨q, hq⟩ : ∃ q : Nat, B[j]'hjb = (q : Int) := ⟨(B[j]'hjb).toNat, by omega⟩
        rw [hp] at c1 ra
        rw [hq] at c2 rb
        have e1 := u8_xor_nat p q (by omega) (by omega)
        have hpq : p ^^^ q < 256 := Nat.xor_lt_two_pow (n := 8) (by omega) (by omega)
        have e2 := u8_or_nat xv (p ^^^ q) hx1 hpq
        have HP := Lib.hid hp
        have HQ := Lib.hid hq
        clear hp hq ka kb
        go_wp2_with (fail)
        go_quiet (fail)
        go_wp2
        go_roundw
        case rel =>
          refine ⟨j + 1, xv ||| (p ^^^ q), by omega, rfl, Nat.or_lt_two_pow (n := 8) hx1 hpq, ?_, by go_num, _, rfl⟩
          rw [Nat.or_eq_zero_iff, nat_xor0, take_eq_succ hja hjb, HX2.out, HP.out, HQ.out]
          simp only [Int.natCast_inj]
        case measure => simp only [intOf]; omega
      · obtain rfl : j = n := by omega
        have hx2 := HX2.out
        rw [List.take_of_length_le (by rw [HN.out]; exact Nat.le_refl _), List.take_of_length_le (by rw [HNB.out]; exact Nat.le_refl _)] at hx2
        go_wp2
        go_ret
        refine ⟨ret_bool ?_, _, rfl⟩
        rw [Bool.eq_iff_iff, decide_eq_true_eq, ← hx2, beq_iff_eq]
        omega
  · have hn0 : ¬ (A.length : Int) = (B.length : Int) := by omega
    have hAB : ¬ A = B := fun e => hne (by rw [e])
    go_enter Try.func23, Try.ntmps23
    go_wp2
    go_ret
    exact ⟨ret_bool (decide_eq_false hAB).symm, 0, rfl⟩

def mV (s : Int) (o : Bool) (v : Value) : Value := .agg #[.int .u16 s, .bool o, v]
set_option maxRecDepth 100000 in
set_option maxHeartbeats 4000000 in
theorem sameMsg (s t : Int) (o p : Bool) (a b : Value) (A B : List Int) (w : World) (ha : LiesB w a A) (hb : LiesB w b B) (hA : A.length ≤ 4000000) (hB : B.length ≤ 4000000) :
    Calls Try.prog 22 #[mV s o a, mV t p b] w fun e w' => e = .returned (.bool (decide (s = t ∧ o = p ∧ A = B))) ∧ turned w w' [] := by
  obtain ⟨aa, ac, rfl, ha1, ha2⟩ := ha.1.form
  obtain ⟨ba, bc, rfl, hb1, hb2⟩ := hb.1.form
  have HA := Lib.hid ha
  have HB := Lib.hid hb
  have HAL := Lib.hid hA
  have HBL := Lib.hid hB
  clear ha hb hA hB
  unfold mV
  by_cases h1 : s = t
  · by_cases h2 : o = p
    · subst h1
      subst h2
      obtain ⟨n, hn⟩ : ∃ n, A.length = n := ⟨_, rfl⟩
      obtain ⟨m, hm⟩ : ∃ n, B.length = n := ⟨_, rfl⟩
      rw [hn, hm]
      have HN := Lib.hid hn
      have HM := Lib.hid hm
      clear hn hm
      go_enter Try.func22, Try.ntmps22
      go_wp2_with (go_at_call 23; rw [← HN.out, ← HM.out]; refine (eqb _ _ A B _ (HA.out.none_ (turned_alloc (turned_alloc (turned_refl w []) _) _)) (HB.out.none_ (turned_alloc (turned_alloc (turned_refl w []) _) _)) HAL.out HBL.out).mono ?_; rintro e w' ⟨rfl, k, rfl⟩)
      go_ret
      refine ⟨ret_bool ?_, turned_drewN' _ (turned_alloc (turned_alloc (turned_refl w []) _) _)⟩
      simp
    · have hd : decide (s = t ∧ o = p ∧ A = B) = false := decide_eq_false fun h => h2 h.2.1
      rw [hd]
      subst h1
      go_enter Try.func22, Try.ntmps22
      go_wp2
      go_ret
      exact ⟨rfl, turned_alloc (turned_alloc (turned_refl w []) _) _⟩
  · have hd : decide (s = t ∧ o = p ∧ A = B) = false := decide_eq_false fun h => h1 h.1
    rw [hd]
    go_enter Try.func22, Try.ntmps22
    go_wp2
    go_ret
    exact ⟨rfl, turned_alloc (turned_alloc (turned_refl w []) _) _⟩
end Go.Proofs.Ytcfpgeceenkheaa
