/- vast. Conditions: the things done lie in memory. -/
import Derived.Test.YtibnjakiagcopaaOutqDoes2
namespace Go.Proofs.Ytibnjakiagcopaa
open Go.RowKit Go.Deep
set_option linter.unusedVariables false
set_option linter.unusedSimpArgs false

theorem LiesO.none_ {w w' : World} {v : Value} {X : List OD} {Bs : List (List Int)} (h : LiesO w v X Bs) (t : turned w w' []) : LiesO w' v X Bs := ⟨h.1.none_ t, h.2.1, h.2.2.1, fun i a b => (h.2.2.2 i a b).none_ t⟩
theorem LiesO.cells {w : World} {a : Option Addr} {n cap : Nat} {X : List OD} {Bs : List (List Int)} (h : LiesO w (.slice a n cap) X Bs) (j : Nat) (hj : j < X.length) : ∃ b off, a = some ⟨b, off, none⟩ ∧ b < w.heap.size ∧ ∀ i, i < 6 → w.cell? ⟨b, off + j * 6 + i, none⟩ = (cOD (X[j]'hj))[i]? := by
  obtain ⟨⟨_, a', cap', e, _, _, hc⟩, _⟩ := h
  cases e
  obtain ⟨b, off, rfl, hb, hcell⟩ := hc (by omega)
  refine ⟨b, off, rfl, hb, fun i hi => ?_⟩
  have e := flat_at cOD_len X j hj i hi
  have hlt : i < (cOD (X[j]'hj)).length := by rw [cOD_len]; exact hi
  rw [List.getElem?_eq_getElem hlt] at e ⊢
  rw [Nat.add_assoc]
  exact hcell _ _ e
def some21 (B : List Int) : Nat := min B.length 2097152
def vastly (Bs : List (List Int)) : Bool := decide (100 < Bs.length) || decide (2097152 < (Bs.map some21).sum)
theorem sum_more (L : List Nat) (j : Nat) : (L.take j).sum ≤ L.sum := by
  have h := congrArg List.sum (List.take_append_drop j L)
  rw [List.sum_append] at h
  omega
theorem vast_len {Bs : List (List Int)} (h : vastly Bs = false) : Bs.length ≤ 100 := by
  unfold vastly at h
  rw [Bool.or_eq_false_iff] at h
  have h1 := of_decide_eq_false h.1
  omega
theorem v1 (s m : Nat) (hs : s ≤ 2097152) (hm : (m : Int) ≤ 2097152) : IntKind.i64.wrap ((s : Int) + (m : Int)) = (s : Int) + (m : Int) := IntWalk.i64_in _ (by omega)
theorem v2 (s m : Nat) (h : 2097152 < s + m) : decide ((2097152 : Int) < (s : Int) + (m : Int)) = true := decide_eq_true (by omega)
theorem v3 (s m : Nat) (h : ¬ 2097152 < s + m) : decide ((2097152 : Int) < (s : Int) + (m : Int)) = false := decide_eq_false (by omega)
theorem v4 (s : Nat) (hs : s ≤ 2097152) : IntKind.i64.wrap ((s : Int) + 2097152) = (s : Int) + 2097152 := IntWalk.i64_in _ (by omega)
theorem v5 (s m : Nat) (hm : (m : Int) = 2097152) (h : 2097152 < s + m) : decide ((2097152 : Int) < (s : Int) + 2097152) = true ∧ (0 : Int) < (s : Int) := ⟨decide_eq_true (by omega), by omega⟩
theorem v6 (s m : Nat) (hm : (m : Int) = 2097152) (h : ¬ 2097152 < s + m) : decide ((2097152 : Int) < (s : Int) + 2097152) = false ∧ ¬ (0 : Int) < (s : Int) := ⟨decide_eq_false (by omega), by omega⟩
theorem v7 (s m : Nat) (h : ¬ 2097152 < s + m) : s + m ≤ 2097152 := by omega
theorem v8 (bl mb : Nat) (h : mb = min bl 2097152) : ((bl : Int) ≤ 2097152 ∧ mb = bl) ∨ (2097152 < (bl : Int) ∧ (mb : Int) = 2097152) := by omega
theorem v9 {s m t a b c : Nat} (h : 2097152 < s + m) (h1 : a = s + b) (h2 : b = m) (h3 : a ≤ c) : decide (2097152 < c) = true := decide_eq_true (by omega)
theorem v10 (s m : Nat) (hm : (m : Int) = 2097152) : Value.int .i64 ((s : Int) + 2097152) = .int .i64 ((s + m : Nat) : Int) := by congr 1; omega
set_option maxRecDepth 100000 in
set_option maxHeartbeats 4000000 in
theorem ovast (v : Value) (X : List OD) (Bs : List (List Int)) (w : World) (h : LiesO w v X Bs) :
    Calls Try.prog 16 #[v] w (Reads w (.bool (vastly Bs))) := by
  obtain ⟨a, cap, rfl, hc1, hc2⟩ := h.1.form
  have hlen := h.2.2.1
  by_cases hbig : 100 < X.length
  · have hv : vastly Bs = true := by unfold vastly; rw [decide_eq_true (by omega)]; rfl
    rw [hv]
    have d0 : decide ((100 : Int) < (X.length : Int)) = true := decide_eq_true (by omega)
    clear h
    generalize X.length = n at *
    go_enter Try.func16, Try.ntmps16
    go_wp2
    go_ret
    exact ⟨rfl, 0, rfl⟩
  have d0 : decide ((100 : Int) < (X.length : Int)) = false := decide_eq_false (by omega)
  have hv : vastly Bs = decide (2097152 < (Bs.map some21).sum) := by unfold vastly; rw [decide_eq_false (by omega)]; rfl
  rw [hv]
  obtain ⟨n, hn⟩ : ∃ n, X.length = n := ⟨_, rfl⟩
  have hn1 : n ≤ 100 := by omega
  rw [hn] at hc1 d0
  have H := Lib.hid h
  have HN := Lib.hid hn
  have HL := Lib.hid hlen
  rw [show (Value.slice a X.length cap) = .slice a n cap by rw [hn]]
  clear h hv hbig hlen hn
  go_enter Try.func16, Try.ntmps16
  go_wp2_with fail
  go_loopw [3, 4] (fun sv iv wr => ∃ i : Nat, i ≤ n ∧ iv = .int .i64 (i : Int) ∧ sv = .int .i64 ((((Bs.map some21).take i).sum : Nat) : Int) ∧ ((Bs.map some21).take i).sum ≤ 2097152 ∧ wr = w) (fun _ iv _ => n - (intOf iv).toNat)
  case atStart => exact ⟨0, Nat.zero_le _, rfl, by simp, by simp, rfl⟩
  case round =>
    obtain ⟨i, hi, rfl, rfl, hs, rfl⟩ := hrel
    by_cases hlt : i < n
    · have hx : i < X.length := by rw [HN.out]; exact hlt
      have hb : i < Bs.length := by rw [HL.out]; exact hx
      obtain ⟨b, off, rfl, _, hc⟩ := H.out.cells i hx
      have c3 := hc 3 (by omega)
      have hl := (H.out.2.2.2 i hx hb).len
      have e3 : wr.cell? ⟨b, off + i * 6 + 3, none⟩ = some (.slice (X[i]'hx).m.ba (X[i]'hx).m.bn (X[i]'hx).m.bc) := c3
      rw [hl] at e3
      have hst := sum_take (Bs.map some21) i (by simpa using hb)
      simp only [List.getElem_map] at hst
      have hso : some21 (Bs[i]'hb) = min (Bs[i]'hb).length 2097152 := rfl
      have hmo := sum_more (Bs.map some21) (i + 1)
      have HST := Lib.hid hst
      have HSO := Lib.hid hso
      have HMO := Lib.hid hmo
      have hlb := (H.out.2.2.2 i hx hb).1.len
      clear c3 hc hl hst hso hmo
      generalize (X[i]'hx).m.ba = xa at *
      generalize (X[i]'hx).m.bc = xc at *
      generalize (Bs[i]'hb).length = bl at *
      generalize ((Bs.map some21).take i).sum = sm at *
      obtain ⟨mb, hmb⟩ : ∃ mb, mb = min bl 2097152 := ⟨_, rfl⟩
      have hcase := v8 bl mb hmb
      rw [← hmb] at HSO
      clear hmb
      by_cases hov : 2097152 < sm + mb
      · have hr : decide (2097152 < (Bs.map some21).sum) = true := v9 (t := 0) hov HST.out HSO.out HMO.out
        rw [hr]
        clear hr HMO HSO HST
        rcases hcase with ⟨hm, hme⟩ | ⟨hm, hm2⟩
        · subst hme
          have s1 := v1 sm mb hs hm
          have s2 := v2 sm mb hov
          clear hov hs
          go_wp2_with fail
          go_ret
          exact ⟨rfl, 0, rfl⟩
        · have s1 := v4 sm hs
          obtain ⟨s2, s3⟩ := v5 sm mb hm2 hov
          clear hov hm2 hs
          go_wp2_with fail
          go_ret
          exact ⟨rfl, 0, rfl⟩
      · have HOV := Lib.hid (v7 sm mb hov)
        have HS2 := Lib.hid (show ((Bs.map some21).take (i + 1)).sum = sm + mb by rw [HST.out, HSO.out])
        clear HMO HSO HST
        rcases hcase with ⟨hm, hme⟩ | ⟨hm, hm2⟩
        · subst hme
          have s1 := v1 sm mb hs hm
          have s2 := v3 sm mb hov
          clear hov hs
          go_wp2_with fail
          go_roundw
          case rel => exact ⟨i + 1, by omega, by go_num, by rw [HS2.out]; go_num, by rw [HS2.out]; exact HOV.out, by first | rfl | trivial⟩
          case measure => simp only [intOf]; omega
        · have s1 := v4 sm hs
          obtain ⟨s2, s3⟩ := v6 sm mb hm2 hov
          have HM2 := Lib.hid (v10 sm mb hm2)
          clear hov hm2 hs
          go_wp2_with fail
          go_roundw
          case rel => exact ⟨i + 1, by omega, by go_num, by rw [HS2.out]; exact HM2.out, by rw [HS2.out]; exact HOV.out, by first | rfl | trivial⟩
          case measure => simp only [intOf]; omega
    · have hin : i = n := by omega
      subst hin
      have e : ((Bs.map some21).take i).sum = (Bs.map some21).sum := by rw [List.take_of_length_le (by rw [List.length_map, HL.out, HN.out]; exact Nat.le_refl _)]
      rw [e] at hs
      have hf : decide (2097152 < (Bs.map some21).sum) = false := decide_eq_false (by omega)
      have HF := Lib.hid hf
      clear e hf
      go_wp2_with fail
      go_ret
      exact ⟨ret_bool HF.out.symm, 0, rfl⟩
end Go.Proofs.Ytibnjakiagcopaa
