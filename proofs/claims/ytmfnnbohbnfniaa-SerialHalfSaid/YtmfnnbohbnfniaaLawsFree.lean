/- The walks of the laws of chapter 3 that stand without the reference. No condition. -/
import Derived.Test.YtmfnnbohbnfniaaLawsRef
import Derived.Lib.SmallJoins
namespace Go.Proofs.Ytmfnnbohbnfniaa
open Go.RowKit Go.Joins
set_option linter.unusedVariables false
set_option linter.unusedSimpArgs false

/-! The plain laws. -/
theorem lss_irrefl {m a : Int} : lss m a a = false := by simp [lss]
theorem shift_diff {m a b c : Int} : ((b + c) % m - (a + c) % m) % m = (b - a) % m := by
  rw [Int.sub_emod, Int.emod_emod_of_dvd _ (Int.dvd_refl m), Int.emod_emod_of_dvd _ (Int.dvd_refl m), ← Int.sub_emod]
  congr 1; omega
theorem lss_shift {m a b c : Int} : lss m ((a + c) % m) ((b + c) % m) = lss m a b := by simp only [lss, shift_diff]
theorem ahd_shift {m a b c : Int} : ahd m ((a + c) % m) ((b + c) % m) = ahd m a b := by simp only [ahd, shift_diff]
theorem inn_shift {m a b c d : Int} : inn m ((a + c) % m) ((b + c) % m) d = inn m a b d := by simp only [inn, shift_diff]
theorem mx_shift {m a b c : Int} : mx m ((a + c) % m) ((b + c) % m) = (mx m a b + c) % m := by
  unfold mx; rw [lss_shift]; split <;> rfl

/-- How two numbers lie. -/
def Lie (m h a b x : Int) : Prop :=
  (lss m a b = true ∧ lss m b a = false ∧ (x == h) = false) ∨ (lss m a b = false ∧ lss m b a = true ∧ (x == h) = false) ∨
  (lss m a b = false ∧ lss m b a = false ∧ a = b) ∨ (lss m a b = false ∧ lss m b a = false ∧ (x == h) = true ∧ (x != h) = false ∧ (a != b) = true)
theorem lie32 {a b : Int} (h1 : 0 ≤ a ∧ a ≤ 4294967295) (h2 : 0 ≤ b ∧ b ≤ 4294967295) : Lie 4294967296 2147483648 a b ((a - b) % 4294967296) := by
  by_cases g1 : a = b
  · exact Or.inr (Or.inr (Or.inl ⟨lss_no (by omega), lss_no (by omega), g1⟩))
  by_cases g2 : (a - b) % 4294967296 = 2147483648
  · exact Or.inr (Or.inr (Or.inr ⟨lss_no (by omega), lss_no (by omega), by simpa using g2, by simpa using g2, by simpa using g1⟩))
  by_cases g3 : 2 * ((b - a) % 4294967296) < 4294967296
  · exact Or.inl ⟨lss_mk (by omega) g3, lss_no (by omega), by simpa using g2⟩
  · exact Or.inr (Or.inl ⟨lss_no (by omega), lss_mk (by omega) (by omega), by simpa using g2⟩)
theorem lie16 {a b : Int} (h1 : 0 ≤ a ∧ a ≤ 65535) (h2 : 0 ≤ b ∧ b ≤ 65535) : Lie 65536 32768 a b (IntKind.u16.wrap (a - b)) := by
  rw [IntKind.wrap_u16]
  by_cases g1 : a = b
  · exact Or.inr (Or.inr (Or.inl ⟨lss_no (by omega), lss_no (by omega), g1⟩))
  by_cases g2 : (a - b) % 65536 = 32768
  · exact Or.inr (Or.inr (Or.inr ⟨lss_no (by omega), lss_no (by omega), by simpa using g2, by simpa using g2, by simpa using g1⟩))
  by_cases g3 : 2 * ((b - a) % 65536) < 65536
  · exact Or.inl ⟨lss_mk (by omega) g3, lss_no (by omega), by simpa using g2⟩
  · exact Or.inr (Or.inl ⟨lss_no (by omega), lss_mk (by omega) (by omega), by simpa using g2⟩)

def Opened40 (v : Value) (x : Int × Int × Int × Int) : Prop :=
  v = .agg #[.int .u32 x.1, .int .u32 x.2.1, .int .u32 x.2.2.1, .int .i64 x.2.2.2] ∧ (0 ≤ x.1 ∧ x.1 ≤ 4294967295) ∧ (0 ≤ x.2.1 ∧ x.2.1 ≤ 4294967295) ∧ (0 ≤ x.2.2.1 ∧ x.2.2.1 ≤ 4294967295) ∧
    (-9223372036854775808 ≤ x.2.2.2 ∧ x.2.2.2 ≤ 9223372036854775807)
theorem opened40 {H : Type} {enc : TypeId × Value → H} {W : World} {r : Reach} {base : Nat} {v : Value} {d : DataW H} {p : List MemPlace}
    (hv : Value.okWide Try.prog W r base 40 v) (h : DataW.Trod enc Try.prog W 0 (fun _ => true) true 40 v d p) : ∃ x, Opened40 v x := by
  obtain ⟨c0, c1, c2, c3, y0, y1, y2, y3, m, rfl, rfl, rfl, hy0, hy1, hy2, hy3⟩ := open_agg4 Try.underlying40 (by kernel_rfl) (by kernel_rfl) hv h
  obtain ⟨a, e0, rfl, wa⟩ := DataW.trod_int Try.underlying22 hy0
  obtain ⟨b, e1, rfl, wb⟩ := DataW.trod_int Try.underlying22 hy1
  obtain ⟨c, e2, rfl, wc⟩ := DataW.trod_int Try.underlying22 hy2
  obtain ⟨d, e3, rfl, wd⟩ := DataW.trod_int Try.underlying3 hy3
  simp only [List.cons.injEq, and_true] at e0 e1 e2 e3
  subst e0 e1 e2 e3
  exact ⟨(a, b, c, d), rfl, bounds_u32 wa, bounds_u32 wb, bounds_u32 wc, bounds_i64 wd⟩

theorem mx_yes {m a b : Int} (h : lss m a b = true) : mx m a b = b := by simp [mx, h]
theorem mx_no {m a b : Int} (h : lss m a b = false) : mx m a b = a := by simp [mx, h]

set_option maxHeartbeats 4000000 in
theorem serialHalf.walk (a0 : Int) (w0 : (Lit.int .u32 a0).wf = true) (a1 : Int) (w1 : (Lit.int .u32 a1).wf = true) (w : World) :
    Calls Try.prog 7 #[.int .u32 a0, .int .u32 a1] w fun e w' => e = .returned (.bool true) ∧ Below w.heap.size w w' := by
  have ha := bounds_u32 w0
  have hb := bounds_u32 w1
  clear w0 w1
  have Lab := lie32 ha hb
  have Lcd : Lie 65536 32768 (a0 % 65536) (a1 % 65536) (IntKind.u16.wrap (a0 % 65536 - a1 % 65536)) := lie16 (by omega) (by omega)
  have i1 : lss 4294967296 a0 a0 = false := lss_irrefl
  have i2 : lss 65536 (a0 % 65536) (a0 % 65536) = false := lss_irrefl
  have i3 : lss 65536 (a1 % 65536) (a1 % 65536) = false := lss_irrefl
  unfold Lie at Lab Lcd
  rcases Lab with ⟨l1, l2, l3⟩ | ⟨l1, l2, l3⟩ | ⟨l1, l2, rfl⟩ | ⟨l1, l2, l3, l4, l5⟩
  all_goals rcases Lcd with ⟨k1, k2, k3⟩ | ⟨k1, k2, k3⟩ | ⟨k1, k2, k3⟩ | ⟨k1, k2, k3, k4, k5⟩
  all_goals (try exact absurd (i3.symm.trans k1) (by decide))
  all_goals (try exact absurd (i3.symm.trans k2) (by decide))
  all_goals (try have m1 := mx_yes l1)
  all_goals (try have m2 := mx_no l2)
  all_goals (try have m3 := mx_yes k1)
  all_goals (try have m4 := mx_no k2)
  all_goals (try rw [← k3] at k1 k2)
  all_goals go_enter Try.func7, Try.ntmps7
  all_goals go_wp2_with (first | (go_at_call 10; refine (ahead_u32 _ _ _).mono ?_; rintro e w' ⟨rfl, rfl⟩) | (go_at_call 17; refine (less_u32 _ _ _).mono ?_; rintro e w' ⟨rfl, rfl⟩) | (go_at_call 23; refine (max_u32 _ _ _).mono ?_; rintro e w' ⟨rfl, rfl⟩) | (go_at_call 29; refine (in_u32 _ _ _ _ (by omega) (by omega) (by omega)).mono ?_; rintro e w' ⟨rfl, rfl⟩) | (go_at_call 13; refine (ahead_u16 _ _ _).mono ?_; rintro e w' ⟨rfl, rfl⟩) | (go_at_call 20; refine (less_u16 _ _ _).mono ?_; rintro e w' ⟨rfl, rfl⟩) | (go_at_call 26; refine (max_u16 _ _ _).mono ?_; rintro e w' ⟨rfl, rfl⟩) | (go_at_call 32; refine (in_u16 _ _ _ _ (by omega) (by omega) (by omega)).mono ?_; rintro e w' ⟨rfl, rfl⟩) | (go_at_call 16; refine (works_any _).mono ?_; rintro e w' ⟨rfl, rfl⟩))
  all_goals go_ret
  all_goals exact ⟨rfl, Below.refl _ _⟩

set_option maxHeartbeats 4000000 in
theorem serialShift.walk (v : Value) (x : Int × Int × Int × Int) (o : Opened40 v x) (w : World) :
    Calls Try.prog 8 #[v] w fun e w' => e = .returned (.bool true) ∧ Below w.heap.size w w' := by
  obtain ⟨a, b, c, d⟩ := x
  obtain ⟨rfl, ha, hb, hc, hd⟩ := o
  simp only at ha hb hc hd ⊢
  have e1 : lss 4294967296 ((a + c) % 4294967296) ((b + c) % 4294967296) = lss 4294967296 a b := lss_shift
  have e2 : ahd 4294967296 ((a + c) % 4294967296) ((b + c) % 4294967296) = ahd 4294967296 a b := ahd_shift
  have e3 : inn 4294967296 ((a + c) % 4294967296) ((b + c) % 4294967296) d = inn 4294967296 a b d := inn_shift
  have e4 : mx 4294967296 ((a + c) % 4294967296) ((b + c) % 4294967296) = (mx 4294967296 a b + c) % 4294967296 := mx_shift
  have f1 : lss 65536 (IntKind.u16.wrap (a % 65536 + c % 65536)) (IntKind.u16.wrap (b % 65536 + c % 65536)) = lss 65536 (a % 65536) (b % 65536) := by rw [IntKind.wrap_u16, IntKind.wrap_u16]; exact lss_shift
  have f2 : ahd 65536 (IntKind.u16.wrap (a % 65536 + c % 65536)) (IntKind.u16.wrap (b % 65536 + c % 65536)) = ahd 65536 (a % 65536) (b % 65536) := by rw [IntKind.wrap_u16, IntKind.wrap_u16]; exact ahd_shift
  have f3 : inn 65536 (IntKind.u16.wrap (a % 65536 + c % 65536)) (IntKind.u16.wrap (b % 65536 + c % 65536)) d = inn 65536 (a % 65536) (b % 65536) d := by rw [IntKind.wrap_u16, IntKind.wrap_u16]; exact inn_shift
  have g1 : 0 ≤ IntKind.u16.wrap (a % 65536 + c % 65536) ∧ IntKind.u16.wrap (a % 65536 + c % 65536) < 65536 := by rw [IntKind.wrap_u16]; omega
  have g2 : 0 ≤ IntKind.u16.wrap (b % 65536 + c % 65536) ∧ IntKind.u16.wrap (b % 65536 + c % 65536) < 65536 := by rw [IntKind.wrap_u16]; omega
  go_enter Try.func8, Try.ntmps8
  go_wp2_with (first | (go_at_call 10; refine (ahead_u32 _ _ _).mono ?_; rintro e w' ⟨rfl, rfl⟩) | (go_at_call 17; refine (less_u32 _ _ _).mono ?_; rintro e w' ⟨rfl, rfl⟩) | (go_at_call 23; refine (max_u32 _ _ _).mono ?_; rintro e w' ⟨rfl, rfl⟩) | (go_at_call 29; refine (in_u32 _ _ _ _ (by omega) (by omega) (by omega)).mono ?_; rintro e w' ⟨rfl, rfl⟩) | (go_at_call 13; refine (ahead_u16 _ _ _).mono ?_; rintro e w' ⟨rfl, rfl⟩) | (go_at_call 20; refine (less_u16 _ _ _).mono ?_; rintro e w' ⟨rfl, rfl⟩) | (go_at_call 26; refine (max_u16 _ _ _).mono ?_; rintro e w' ⟨rfl, rfl⟩) | (go_at_call 32; refine (in_u16 _ _ _ _ (by omega) (by omega) (by omega)).mono ?_; rintro e w' ⟨rfl, rfl⟩) | (go_at_call 16; refine (works_any _).mono ?_; rintro e w' ⟨rfl, rfl⟩))
  all_goals go_ret
  all_goals exact ⟨rfl, (Below.refl _ _).alloc (Nat.le_refl _) _⟩

/-- Two steps ahead, together below the half. -/
theorem through1 {a b c : Int} (ha : 0 ≤ a ∧ a ≤ 4294967295) (hb : 0 ≤ b ∧ b ≤ 4294967295) (hc : 0 ≤ c ∧ c ≤ 4294967295) :
    (ahd 4294967296 a ((a + b) % 4294967296) + ahd 4294967296 ((a + b) % 4294967296) ((a + b + c) % 4294967296)) % 4294967296 = ahd 4294967296 a ((a + b + c) % 4294967296) := by
  unfold ahd; omega
theorem through2 {a b : Int} (ha : 0 ≤ a ∧ a ≤ 4294967295) (hb : 1 ≤ b ∧ b < 2147483648) : lss 4294967296 a ((a + b) % 4294967296) = true := lss_mk (by omega) (by omega)
theorem through3 {a b c : Int} (ha : 0 ≤ a ∧ a ≤ 4294967295) (hb : 1 ≤ b) (hc : 1 ≤ c) (h : b + c < 2147483648) : lss 4294967296 a ((a + b + c) % 4294967296) = true := lss_mk (by omega) (by omega)

set_option maxHeartbeats 4000000 in
theorem serialThrough.walk (a0 : Int) (w0 : (Lit.int .u32 a0).wf = true) (a1 : Int) (w1 : (Lit.int .u32 a1).wf = true) (a2 : Int) (w2 : (Lit.int .u32 a2).wf = true) (w : World) :
    Calls Try.prog 9 #[.int .u32 a0, .int .u32 a1, .int .u32 a2] w fun e w' => e = .returned (.bool true) ∧ Below w.heap.size w w' := by
  have ha := bounds_u32 w0
  have hb := bounds_u32 w1
  have hc := bounds_u32 w2
  clear w0 w1 w2
  have e1 := through1 ha hb hc
  by_cases z1 : a1 = 0
  · subst z1
    have z3 : (ahd 4294967296 a0 a0 + ahd 4294967296 a0 ((a0 + a2) % 4294967296)) % 4294967296 = ahd 4294967296 a0 ((a0 + a2) % 4294967296) := by unfold ahd; omega
    clear e1
    go_enter Try.func9, Try.ntmps9
    go_wp2_with (first | (go_at_call 10; refine (ahead_u32 _ _ _).mono ?_; rintro e w' ⟨rfl, rfl⟩) | (go_at_call 17; refine (less_u32 _ _ _).mono ?_; rintro e w' ⟨rfl, rfl⟩) | (go_at_call 23; refine (max_u32 _ _ _).mono ?_; rintro e w' ⟨rfl, rfl⟩) | (go_at_call 29; refine (in_u32 _ _ _ _ (by omega) (by omega) (by omega)).mono ?_; rintro e w' ⟨rfl, rfl⟩) | (go_at_call 13; refine (ahead_u16 _ _ _).mono ?_; rintro e w' ⟨rfl, rfl⟩) | (go_at_call 20; refine (less_u16 _ _ _).mono ?_; rintro e w' ⟨rfl, rfl⟩) | (go_at_call 26; refine (max_u16 _ _ _).mono ?_; rintro e w' ⟨rfl, rfl⟩) | (go_at_call 32; refine (in_u16 _ _ _ _ (by omega) (by omega) (by omega)).mono ?_; rintro e w' ⟨rfl, rfl⟩) | (go_at_call 16; refine (works_any _).mono ?_; rintro e w' ⟨rfl, rfl⟩))
    all_goals go_ret
    all_goals exact ⟨rfl, Below.refl _ _⟩
  by_cases z2 : a2 = 0
  · subst z2
    have z3 : (ahd 4294967296 a0 ((a0 + a1) % 4294967296) + ahd 4294967296 ((a0 + a1) % 4294967296) ((a0 + a1) % 4294967296)) % 4294967296 = ahd 4294967296 a0 ((a0 + a1) % 4294967296) := by unfold ahd; omega
    clear e1
    go_enter Try.func9, Try.ntmps9
    go_wp2_with (first | (go_at_call 10; refine (ahead_u32 _ _ _).mono ?_; rintro e w' ⟨rfl, rfl⟩) | (go_at_call 17; refine (less_u32 _ _ _).mono ?_; rintro e w' ⟨rfl, rfl⟩) | (go_at_call 23; refine (max_u32 _ _ _).mono ?_; rintro e w' ⟨rfl, rfl⟩) | (go_at_call 29; refine (in_u32 _ _ _ _ (by omega) (by omega) (by omega)).mono ?_; rintro e w' ⟨rfl, rfl⟩) | (go_at_call 13; refine (ahead_u16 _ _ _).mono ?_; rintro e w' ⟨rfl, rfl⟩) | (go_at_call 20; refine (less_u16 _ _ _).mono ?_; rintro e w' ⟨rfl, rfl⟩) | (go_at_call 26; refine (max_u16 _ _ _).mono ?_; rintro e w' ⟨rfl, rfl⟩) | (go_at_call 32; refine (in_u16 _ _ _ _ (by omega) (by omega) (by omega)).mono ?_; rintro e w' ⟨rfl, rfl⟩) | (go_at_call 16; refine (works_any _).mono ?_; rintro e w' ⟨rfl, rfl⟩))
    all_goals go_ret
    all_goals exact ⟨rfl, Below.refl _ _⟩
  by_cases z3 : a1 + a2 < 2147483648
  · have e2 := through2 ha (b := a1) (by omega)
    have e3 : lss 4294967296 ((a0 + a1) % 4294967296) ((a0 + a1 + a2) % 4294967296) = true := lss_mk (by omega) (by omega)
    have e4 := through3 ha (b := a1) (c := a2) (by omega) (by omega) z3
    have e5 := mx_yes e2
    have e6 := mx_yes e3
    go_enter Try.func9, Try.ntmps9
    go_wp2_with (first | (go_at_call 10; refine (ahead_u32 _ _ _).mono ?_; rintro e w' ⟨rfl, rfl⟩) | (go_at_call 17; refine (less_u32 _ _ _).mono ?_; rintro e w' ⟨rfl, rfl⟩) | (go_at_call 23; refine (max_u32 _ _ _).mono ?_; rintro e w' ⟨rfl, rfl⟩) | (go_at_call 29; refine (in_u32 _ _ _ _ (by omega) (by omega) (by omega)).mono ?_; rintro e w' ⟨rfl, rfl⟩) | (go_at_call 13; refine (ahead_u16 _ _ _).mono ?_; rintro e w' ⟨rfl, rfl⟩) | (go_at_call 20; refine (less_u16 _ _ _).mono ?_; rintro e w' ⟨rfl, rfl⟩) | (go_at_call 26; refine (max_u16 _ _ _).mono ?_; rintro e w' ⟨rfl, rfl⟩) | (go_at_call 32; refine (in_u16 _ _ _ _ (by omega) (by omega) (by omega)).mono ?_; rintro e w' ⟨rfl, rfl⟩) | (go_at_call 16; refine (works_any _).mono ?_; rintro e w' ⟨rfl, rfl⟩))
    all_goals go_ret
    all_goals exact ⟨rfl, Below.refl _ _⟩
  · go_enter Try.func9, Try.ntmps9
    go_wp2_with (first | (go_at_call 10; refine (ahead_u32 _ _ _).mono ?_; rintro e w' ⟨rfl, rfl⟩) | (go_at_call 17; refine (less_u32 _ _ _).mono ?_; rintro e w' ⟨rfl, rfl⟩) | (go_at_call 23; refine (max_u32 _ _ _).mono ?_; rintro e w' ⟨rfl, rfl⟩) | (go_at_call 29; refine (in_u32 _ _ _ _ (by omega) (by omega) (by omega)).mono ?_; rintro e w' ⟨rfl, rfl⟩) | (go_at_call 13; refine (ahead_u16 _ _ _).mono ?_; rintro e w' ⟨rfl, rfl⟩) | (go_at_call 20; refine (less_u16 _ _ _).mono ?_; rintro e w' ⟨rfl, rfl⟩) | (go_at_call 26; refine (max_u16 _ _ _).mono ?_; rintro e w' ⟨rfl, rfl⟩) | (go_at_call 32; refine (in_u16 _ _ _ _ (by omega) (by omega) (by omega)).mono ?_; rintro e w' ⟨rfl, rfl⟩) | (go_at_call 16; refine (works_any _).mono ?_; rintro e w' ⟨rfl, rfl⟩))
    all_goals go_ret
    all_goals exact ⟨rfl, Below.refl _ _⟩
end Go.Proofs.Ytmfnnbohbnfniaa
