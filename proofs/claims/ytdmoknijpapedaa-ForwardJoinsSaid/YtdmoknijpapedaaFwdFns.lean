/- The small functions of package forward, of its reference and of its laws. Conditions: a slice lies in memory with its cells. -/
import Derived.Test.YtdmoknijpapedaaFwd
import Derived.WalkLawsBesides
import Derived.WalkSpells
import Derived.Laws.StructEq
import Derived.BigQuiet
import Derived.Outline
namespace Go.Proofs.Ytdmoknijpapedaa
open Go.RowKit Go.Maps
set_option linter.unusedVariables false
set_option linter.unusedSimpArgs false

theorem gdSk : Try.prog.eqGuardType Try.prog.depth 41 = false := by kernel_rfl
theorem eqlSk (a b c d : Int) (w : World) : (binOp .eql 41 (.agg #[.int .u16 a, .int .u16 b]) (.agg #[.int .u16 c, .int .u16 d])).run Try.prog w = .ok (.bool (decide (a = c ∧ b = d))) w := by
  have hS : Try.prog.underlying 41 = some (.struct (Try.prog.fieldsOf 41)) := by kernel_rfl
  have hp : Try.prog.stoodInHeld 41 = false := by kernel_rfl
  have u3 := Try.underlying31
  rw [run_eql_struct, show (10000 : Nat) = 9999 + 1 from rfl, run_equalIn_agg w 9999 41 _ _ hS hp]
  simp only [Program.fieldsOf, Try.underlying41]
  go_simp
  by_cases h1 : a = c <;> by_cases h2 : b = d <;> simp [h1, h2]
theorem neqSk (a b c d : Int) (w : World) : (binOp .neq 41 (.agg #[.int .u16 a, .int .u16 b]) (.agg #[.int .u16 c, .int .u16 d])).run Try.prog w = .ok (.bool (!decide (a = c ∧ b = d))) w := by
  have hS : Try.prog.underlying 41 = some (.struct (Try.prog.fieldsOf 41)) := by kernel_rfl
  have hp : Try.prog.stoodInHeld 41 = false := by kernel_rfl
  have u3 := Try.underlying31
  rw [run_neq_struct, show (10000 : Nat) = 9999 + 1 from rfl, run_equalIn_agg w 9999 41 _ _ hS hp]
  simp only [Program.fieldsOf, Try.underlying41]
  go_simp
  by_cases h1 : a = c <;> by_cases h2 : b = d <;> simp [h1, h2]

set_option maxHeartbeats 400000 in
theorem less18_32 (a b : Int) (w : World) :
    Calls Try.prog 24 #[.int .u32 a, .int .u32 b] w fun e w' => e = .returned (.bool (lss 4294967296 a b)) ∧ w = w' := by
  go_enter Try.func24, Try.ntmps24
  go_wp2
  all_goals go_ret
  all_goals refine ⟨ret_bool ?_, rfl⟩
  all_goals (try simp only [IntKind.wrap_u16, IntKind.wrap_u64] at *)
  · rw [Bool.eq_iff_iff]; simp [lss]; omega
  · exact (lss_no (Or.inl (by omega))).symm
set_option maxHeartbeats 400000 in
theorem less18_16 (a b : Int) (w : World) :
    Calls Try.prog 21 #[.int .u16 a, .int .u16 b] w fun e w' => e = .returned (.bool (lss 65536 a b)) ∧ w = w' := by
  go_enter Try.func21, Try.ntmps21
  go_wp2
  all_goals go_ret
  all_goals refine ⟨ret_bool ?_, rfl⟩
  all_goals (try simp only [IntKind.wrap_u16, IntKind.wrap_u64] at *)
  · rw [Bool.eq_iff_iff]; simp [lss]; omega
  · exact (lss_no (Or.inl (by omega))).symm

def ovr (tsn cum : Int) : Bool := decide (tsn = cum) || lss 4294967296 tsn cum
set_option maxHeartbeats 1000000 in
theorem over_any (c t : Int) (sv : Value) (w : World) :
    Calls Try.prog 17 #[.agg #[.int .u32 c, sv], .int .u32 t] w fun e w' => e = .returned (.bool (ovr t c)) ∧ w.grownBy w' none := by
  by_cases h : t = c
  · subst h
    go_enter Try.func17, Try.ntmps17
    go_wp2
    go_ret
    exact ⟨by simp [ovr], only_alloc (only_refl _ _) _⟩
  · have hb : (t == c) = false := by simpa using h
    go_enter Try.func17, Try.ntmps17
    go_wp2_with (go_at_call 23; refine (less_u32 _ _ _).mono ?_; rintro e w' ⟨rfl, rfl⟩)
    go_ret
    exact ⟨by simp [ovr, h], only_alloc (only_refl _ _) _⟩
set_option maxHeartbeats 1000000 in
theorem rover_any (c t : Int) (sv : Value) (w : World) :
    Calls Try.prog 18 #[.agg #[.int .u32 c, sv], .int .u32 t] w fun e w' => e = .returned (.bool (ovr t c)) ∧ w.grownBy w' none := by
  by_cases h : t = c
  · subst h
    go_enter Try.func18, Try.ntmps18
    go_wp2
    go_ret
    exact ⟨by simp [ovr], only_alloc (only_refl _ _) _⟩
  · have hb : (t == c) = false := by simpa using h
    go_enter Try.func18, Try.ntmps18
    go_wp2_with (go_at_call 24; refine (less18_32 _ _ _).mono ?_; rintro e w' ⟨rfl, rfl⟩)
    go_ret
    exact ⟨by simp [ovr, h], only_alloc (only_refl _ _) _⟩

set_option maxHeartbeats 1000000 in
theorem size_any (c : Int) (a : Option Addr) (n cap : Nat) (w : World) (hn : n ≤ 1000000) :
    Calls Try.prog 13 #[.agg #[.int .u32 c, .slice a n cap]] w fun e w' => e = .returned (.int .i64 (4 + 4 * (n : Int))) ∧ w.grownBy w' none := by
  go_enter Try.func13, Try.ntmps13
  go_wp2
  go_ret
  exact ⟨by simp, only_alloc (only_refl _ _) _⟩
set_option maxHeartbeats 1000000 in
theorem rsize_any (c : Int) (a : Option Addr) (n cap : Nat) (w : World) (hn : n ≤ 1000000) :
    Calls Try.prog 14 #[.agg #[.int .u32 c, .slice a n cap]] w fun e w' => e = .returned (.int .i64 (4 + 4 * (n : Int))) ∧ w.grownBy w' none := by
  go_enter Try.func14, Try.ntmps14
  go_wp2
  go_ret
  exact ⟨by simp, only_alloc (only_refl _ _) _⟩

set_option maxHeartbeats 4000000 in
theorem same_skips (v u : Value) (S T : List (Int × Int)) (w : World) (hv : Lies w 2 v S.length (flat cSk S)) (hu : Lies w 2 u T.length (flat cSk T)) :
    Calls Try.prog 15 #[v, u] w fun e w' => e = .returned (.bool (decide (S = T))) ∧ ∃ n, w' = w.drewN n := by
  obtain ⟨_, a, cap, rfl, hc1, hc2, ha⟩ := hv
  obtain ⟨_, b, dap, rfl, hd1, hd2, hb⟩ := hu
  have gd := gdSk
  by_cases hlen : S.length = T.length
  · have HL := Lib.hid hlen
    rw [← hlen] at hb hd1 ⊢
    clear hlen
    go_enter Try.func15, Try.ntmps15
    go_wp2
    go_loopw [5] (fun i wr => (∃ m, wr = w.drewN m) ∧ ∃ j : Nat, j ≤ S.length ∧ i = .int .i64 (j : Int) ∧ S.take j = T.take j) (fun i _ => S.length - (intOf i).toNat)
    case atStart => exact ⟨⟨0, rfl⟩, 0, Nat.zero_le _, rfl, by simp⟩
    case round =>
      obtain ⟨⟨m, rfl⟩, j, hj, rfl, hall⟩ := hrel
      have HALL := Lib.hid hall
      clear hall
      by_cases hlt : j < S.length
      · obtain ⟨ba, oa, rfl, _, hca⟩ := ha (by omega)
        obtain ⟨bb, ob, rfl, _, hcb⟩ := hb (by omega)
        have hltT : j < T.length := by rw [← HL.out]; exact hlt
        obtain ⟨x, hx⟩ : ∃ x, S[j]'hlt = x := ⟨_, rfl⟩
        obtain ⟨y, hy⟩ : ∃ y, T[j]'hltT = y := ⟨_, rfl⟩
        have e0 := hca (j * 2 + 0) (.int .u16 x.1) (by rw [flat_at cSk_len S j hlt 0 (by omega), hx]; rfl)
        have e1 := hca (j * 2 + 1) (.int .u16 x.2) (by rw [flat_at cSk_len S j hlt 1 (by omega), hx]; rfl)
        have d0 := hcb (j * 2 + 0) (.int .u16 y.1) (by rw [flat_at cSk_len T j hltT 0 (by omega), hy]; rfl)
        have d1 := hcb (j * 2 + 1) (.int .u16 y.2) (by rw [flat_at cSk_len T j hltT 1 (by omega), hy]; rfl)
        simp only [Nat.add_zero, ← Nat.add_assoc] at e0 e1 d0 d1
        have HX := Lib.hid hx
        have HY := Lib.hid hy
        clear hca hcb hx hy
        have hne := neqSk x.1 x.2 y.1 y.2
        by_cases hxy : x.1 = y.1 ∧ x.2 = y.2
        · rw [decide_eq_true hxy] at hne
          have HXY := Lib.hid hxy
          clear hxy
          go_wp2
          go_quiet (fail)
          go_wp2
          go_roundw
          case rel => exact ⟨⟨_, rfl⟩, j + 1, by omega, by go_num, by
            rw [List.take_succ_eq_append_getElem hlt, List.take_succ_eq_append_getElem hltT, HALL.out, HX.out, HY.out, show x = y from Prod.ext HXY.out.1 HXY.out.2]⟩
          case measure => simp only [intOf]; omega
        · rw [decide_eq_false hxy] at hne
          have HXY := Lib.hid hxy
          clear hxy
          go_wp2
          go_quiet (fail)
          go_wp2
          go_ret
          refine ⟨ret_bool (Eq.symm (decide_eq_false fun e => ?_)), _, World.drewN_drewN _ _ _⟩
          subst e
          have : x = y := HX.out.symm.trans HY.out
          exact HXY.out ⟨by rw [this], by rw [this]⟩
      · go_wp2
        go_ret
        refine ⟨ret_bool (Eq.symm (decide_eq_true ?_)), m, rfl⟩
        have h := HALL.out
        have : j = S.length := by omega
        rw [this, List.take_length, HL.out, List.take_length] at h
        exact h
  · have hne : ((S.length : Int) != (T.length : Int)) = true := by simp; omega
    have hd : decide (S = T) = false := decide_eq_false fun e => hlen (by rw [e])
    rw [hd]
    clear ha hb hd
    go_enter Try.func15, Try.ntmps15
    go_wp2
    go_ret
    exact ⟨rfl, 0, rfl⟩

set_option maxHeartbeats 2000000 in
theorem same_forward (c d : Int) (v u : Value) (S T : List (Int × Int)) (w : World) (hv : Lies w 2 v S.length (flat cSk S)) (hu : Lies w 2 u T.length (flat cSk T)) :
    Calls Try.prog 11 #[.agg #[.int .u32 c, v], .agg #[.int .u32 d, u]] w fun e w' => e = .returned (.bool (decide (c = d) && decide (S = T))) ∧ w.grownBy w' none := by
  have HV := Lib.hid hv
  have HU := Lib.hid hu
  clear hv hu
  have g2 : turned w ((w.alloc (.cells #[.int .u32 c, v] 27)).alloc (.cells #[.int .u32 d, u] 27)) [] := turned_alloc (turned_alloc (turned_refl _ _) _) _
  have G2 := Lib.hid g2
  clear g2
  by_cases h : c = d
  · subst h
    go_enter Try.func11, Try.ntmps11
    go_wp2_with (go_at_call 15; refine (same_skips v u S T _ (HV.out.none_ G2.out) (HU.out.none_ G2.out)).mono ?_; rintro e w' ⟨rfl, m, rfl⟩)
    go_ret
    exact ⟨by simp, only_drewN m (only_alloc (only_alloc (only_refl _ _) _) _)⟩
  · have hb : (c == d) = false := by simpa using h
    go_enter Try.func11, Try.ntmps11
    go_wp2
    go_ret
    exact ⟨by simp [h], only_alloc (only_alloc (only_refl _ _) _) _⟩
end Go.Proofs.Ytdmoknijpapedaa
