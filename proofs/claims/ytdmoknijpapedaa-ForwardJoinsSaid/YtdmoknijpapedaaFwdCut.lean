/- Cuts of what is told, in new memory. Conditions: the skips lie in memory; at most 1000. -/
import Derived.Test.YtdmoknijpapedaaFwdMake2
namespace Go.Proofs.Ytdmoknijpapedaa
open Go.RowKit Go.Maps Go.Deep
set_option linter.unusedVariables false
set_option linter.unusedSimpArgs false

theorem Lies.cut {w : World} {sz n cap : Nat} {a : Option Addr} {xs : List Value} (h : Lies w sz (.slice a n cap) n xs) {k : Nat} (hk : k ≤ n) : Lies w sz (.slice a k cap) k (xs.take (k * sz)) := by
  obtain ⟨h0, a', cap', e, h1, h2, h3⟩ := h
  cases e
  refine ⟨by rw [List.length_take, h0]; exact Nat.min_eq_left (Nat.mul_le_mul_right _ hk), a, cap, rfl, by omega, h2, fun hp => ?_⟩
  obtain ⟨b, off, rfl, hb, hc⟩ := h3 (by omega)
  exact ⟨b, off, rfl, hb, fun j u hu => hc j u (by
    rw [List.getElem?_take] at hu
    split at hu
    · exact hu
    · cases hu)⟩
set_option maxHeartbeats 1000000 in
theorem clone_any (v : Value) (S : List (Int × Int)) (w : World) (hv : Lies w 2 v S.length (flat cSk S)) (hS : S.length ≤ 1000000) :
    Calls Try.prog 22 #[v] w fun e w' => ∃ v', e = .returned v' ∧ w'.ownsRow w.heap.size 41 2 v' S.length (flat cSk S) ∧ turned w w' [] := by
  obtain ⟨a, cap, rfl, hc1, hc2⟩ := hv.form
  have HV := Lib.hid hv
  clear hv
  obtain ⟨i0, hi0, hz0, hz1, hz2⟩ := info_parts infoSk
  have hnil := fun w => Lib.run_eql_slice_nil (P := Try.prog) w 25 41 a S.length cap 0 0 Try.underlying25
  cases a with
  | none =>
    have h0 : S.length = 0 := by
      rcases Nat.eq_zero_or_pos S.length with h | h
      · exact h
      · obtain ⟨_, a', cap', e, _, _, h3⟩ := HV.out
        cases e
        obtain ⟨b, off, e, _⟩ := h3 h
        cases e
    have hS0 : S = [] := List.eq_nil_of_length_eq_zero h0
    subst hS0
    simp only [List.length_nil] at hnil ⊢
    go_enter Try.func22, Try.ntmps22
    go_wp2
    go_ret
    exact ⟨_, rfl, World.ownsRow_nil _ _ _ _, turned_refl _ _⟩
  | some ad =>
    go_enter Try.func22, Try.ntmps22
    go_wp2_with (first | (at_builtin; refine wpList_append_lies' _ rfl _ _ 25 rfl w.heap.size 41 i0 (.agg #[.int .u16 0, .int .u16 0]) 2 4 Try.underlying25 hi0 hz0 hz1 hz2 rfl (by decide) _ 0 [] rfl (World.ownsRow_lit w #[] 0 (Nat.le_refl _) (by decide) rfl) _ S.length (flat cSk S) rfl (HV.out.none_ (turned_alloc (turned_refl w []) _)) (flat_one cSk_one S) (by unfold maxLen; omega) (by omega) (by simp) ?_) | go_in)
    intro v' w' ho hg hl
    have t : turned w w' [] := turned_new (turned_alloc (turned_refl w []) _) hg (fun k e => by simp [Value.ownBlock] at e; omega)
    have HO := Lib.hid ho
    have TT := Lib.hid t
    clear ho hg hl t
    go_wp2
    go_ret
    exact ⟨_, rfl, by simpa using HO.out, TT.out⟩

theorem calls_arg {P : Program} {f : FuncId} {w : World} {Q : Ending → World → Prop} {a : Option Addr} {k k' cap : Nat} (e : k = k') (h : Calls P f #[.slice a k' cap] w Q) : Calls P f #[.slice a k cap] w Q := by subst e; exact h
def cutN (n : Nat) (most : Int) : Nat := (max 0 (min (n : Int) (most / 4 - 1))).toNat
theorem cutN_le (n : Nat) (most : Int) : cutN n most ≤ n := by unfold cutN; omega
set_option maxHeartbeats 1000000 in
theorem cut_any (c most : Int) (v : Value) (S : List (Int × Int)) (w : World) (hv : Lies w 2 v S.length (flat cSk S)) (hS : S.length ≤ 1000000) (hm : -9223372036854775808 ≤ most ∧ most ≤ 9223372036854775807) :
    Calls Try.prog 12 #[.agg #[.int .u32 c, v], .int .i64 most] w fun e w' => ∃ v', e = .returned v' ∧ w'.ownsRow w.heap.size 41 2 v' (cutN S.length most) (flat cSk (S.take (cutN S.length most))) ∧ turned w w' [] := by
  obtain ⟨a, cap, rfl, hc1, hc2⟩ := hv.form
  have HV := Lib.hid hv
  obtain ⟨hm1, hm2⟩ := hm
  clear hv
  have hle := cutN_le S.length most
  have htl : (S.take (cutN S.length most)).length = cutN S.length most := by rw [List.length_take]; exact Nat.min_eq_left hle
  have HCL := fun (w' : World) (t : turned w w' []) => clone_any (.slice a (cutN S.length most) cap) (S.take (cutN S.length most)) w' (by
    rw [htl, flat_take cSk_len]
    exact (HV.out.none_ t).cut hle) (by rw [htl]; omega)
  rw [htl] at HCL
  have CL := Lib.hid HCL
  have T1 := Lib.hid (turned_alloc (turned_refl w []) (.cells #[.int .u32 c, .slice a S.length cap] 27))
  have fin : ∀ (v' : Value) (w' : World), w'.ownsRow (w.alloc (.cells #[.int .u32 c, .slice a S.length cap] 27)).heap.size 41 2 v' (cutN S.length most) (flat cSk (S.take (cutN S.length most))) → w'.ownsRow w.heap.size 41 2 v' (cutN S.length most) (flat cSk (S.take (cutN S.length most))) := fun v' w' h => by
    refine ⟨h.1, h.2.imp id ?_⟩
    rintro ⟨g, cap, cur, rfl, hb, r⟩
    exact ⟨g, cap, cur, rfl, by simp at hb; omega, r⟩
  have FIN := Lib.hid fin
  clear HCL htl fin
  by_cases h8 : 0 ≤ most
  · go_enter Try.func12, Try.ntmps12
    go_wp2_with (go_at_call 22; fail)
    all_goals refine calls_arg (k' := cutN S.length most) (by unfold cutN; omega) ?_
    all_goals refine (CL.out _ T1.out).mono ?_
    all_goals rintro e w' ⟨v', rfl, ho, t⟩
    all_goals have HO := Lib.hid (FIN.out _ _ ho)
    all_goals have TT := Lib.hid t
    all_goals clear ho t
    all_goals go_wp2
    all_goals go_ret
    all_goals exact ⟨_, rfl, HO.out, turned_trans T1.out TT.out⟩
  · obtain ⟨q, hq⟩ : ∃ q, Int.tdiv most 4 = q := ⟨_, rfl⟩
    have hq' : Int.tdiv most 4 = -((-most) / 4) := by
      have : most = -(-most) := by omega
      rw [this, Int.neg_tdiv, Int.tdiv_eq_ediv_of_nonneg (by omega)]
      simp
    have q1 : -2305843009213693952 ≤ q := by omega
    have q2 : q ≤ 0 := by omega
    clear hq'
    go_enter Try.func12, Try.ntmps12
    go_wp2_with (go_at_call 22; fail)
    all_goals clear hq
    all_goals refine calls_arg (k' := cutN S.length most) (by unfold cutN; omega) ?_
    all_goals refine (CL.out _ T1.out).mono ?_
    all_goals rintro e w' ⟨v', rfl, ho, t⟩
    all_goals have HO := Lib.hid (FIN.out _ _ ho)
    all_goals have TT := Lib.hid t
    all_goals clear ho t
    all_goals go_wp2
    all_goals go_ret
    all_goals exact ⟨_, rfl, HO.out, turned_trans T1.out TT.out⟩

set_option maxHeartbeats 2000000 in
theorem rcut_any (c most : Int) (v : Value) (S : List (Int × Int)) (w : World) (hv : Lies w 2 v S.length (flat cSk S)) (hS : S.length ≤ 1000000) (hm : -9223372036854775808 ≤ most ∧ most ≤ 9223372036854775807) :
    Calls Try.prog 16 #[.agg #[.int .u32 c, v], .int .i64 most] w fun e w' => ∃ v', e = .returned v' ∧ w'.ownsRow w.heap.size 41 2 v' (cutN S.length most) (flat cSk (S.take (cutN S.length most))) ∧ turned w w' [] := by
  obtain ⟨a, cap, rfl, hc1, hc2⟩ := hv.form
  have HV := Lib.hid hv
  obtain ⟨hm1, hm2⟩ := hm
  clear hv
  obtain ⟨i0, hi0, hz0, hz1, hz2⟩ := info_parts infoSk
  have hle := cutN_le S.length most
  obtain ⟨w1, hw1⟩ : ∃ w1, w1 = w.alloc (.cells #[.int .u32 c, .slice a S.length cap] 27) := ⟨_, rfl⟩
  have t1 : turned w w1 [] := by rw [hw1]; exact turned_alloc (turned_refl w []) _
  have o1 : obj w1 w.heap.size 27 [.int .u32 c, .slice a S.length cap] := by rw [hw1]; exact obj.new w _ _
  have c1 := o1.cell 1 rfl
  have c1' := (o1.alloc (.cells #[] 41)).cell 1 rfl
  have T1 := Lib.hid t1
  clear t1 o1
  go_enter Try.func16, Try.ntmps16
  go_wp2
  rw [← hw1]
  clear hw1
  go_loop [5] (fun i => ∃ k : Nat, k ≤ S.length ∧ i = .int .i64 (k : Int) ∧ (k = 0 ∨ 4 + 4 * (k : Int) ≤ most)) (fun i => S.length - (intOf i).toNat)
  case atStart => exact ⟨0, Nat.zero_le _, rfl, Or.inl rfl⟩
  case round =>
    obtain ⟨k, hk, rfl, hmo⟩ := hrel
    have goes : ¬ (k < S.length ∧ 4 + 4 * ((k : Int) + 1) ≤ most) → k = cutN S.length most := by
      intro h
      unfold cutN
      omega
    have GOES := Lib.hid goes
    have HMO := Lib.hid hmo
    clear goes hmo
    by_cases h1 : k < S.length
    · by_cases h2 : 4 + 4 * ((k : Int) + 1) ≤ most
      · have hd : decide (4 + 4 * ((k : Int) + 1) ≤ most) = true := decide_eq_true h2
        go_wp2
        go_round
        case rel => exact ⟨k + 1, by omega, by go_num, Or.inr (by omega)⟩
        case measure => simp only [intOf]; omega
      · have e := GOES.out (fun h => h2 h.2)
        have hd : decide (4 + 4 * ((k : Int) + 1) ≤ most) = false := decide_eq_false h2
        subst e
        go_wp2_with (first | (at_builtin; refine wpList_append_lies' _ rfl _ _ 25 rfl w.heap.size 41 i0 (.agg #[.int .u16 0, .int .u16 0]) 2 4 Try.underlying25 hi0 hz0 hz1 hz2 rfl (by decide) _ 0 [] rfl (World.ownsRow_lit w1 #[] 0 T1.out.2.2.2.1 (by decide) rfl) _ (cutN S.length most) (flat cSk (S.take (cutN S.length most))) rfl (by rw [flat_take cSk_len]; exact (HV.out.none_ (turned_alloc T1.out _)).cut hle) (flat_one cSk_one _) (by unfold maxLen; omega) (by omega) (by have := T1.out.2.2.2.1; simp; omega) ?_) | go_in)
        intro v' w' ho hg hl
        have t : turned w w' [] := turned_new (turned_alloc T1.out _) hg (fun k e => by simp [Value.ownBlock] at e; have := T1.out.2.2.2.1; omega)
        have HO := Lib.hid ho
        have TT := Lib.hid t
        clear ho hg hl t
        go_wp2
        go_ret
        exact ⟨_, rfl, by simpa using HO.out, TT.out⟩
    · have e := GOES.out (fun h => h1 h.1)
      have hd : decide (k < S.length) = false := decide_eq_false h1
      subst e
      go_wp2_with (first | (at_builtin; refine wpList_append_lies' _ rfl _ _ 25 rfl w.heap.size 41 i0 (.agg #[.int .u16 0, .int .u16 0]) 2 4 Try.underlying25 hi0 hz0 hz1 hz2 rfl (by decide) _ 0 [] rfl (World.ownsRow_lit w1 #[] 0 T1.out.2.2.2.1 (by decide) rfl) _ (cutN S.length most) (flat cSk (S.take (cutN S.length most))) rfl (by rw [flat_take cSk_len]; exact (HV.out.none_ (turned_alloc T1.out _)).cut hle) (flat_one cSk_one _) (by unfold maxLen; omega) (by omega) (by have := T1.out.2.2.2.1; simp; omega) ?_) | go_in)
      intro v' w' ho hg hl
      have t : turned w w' [] := turned_new (turned_alloc T1.out _) hg (fun k e => by simp [Value.ownBlock] at e; have := T1.out.2.2.2.1; omega)
      have HO := Lib.hid ho
      have TT := Lib.hid t
      clear ho hg hl t
      go_wp2
      go_ret
      exact ⟨_, rfl, by simpa using HO.out, TT.out⟩
end Go.Proofs.Ytdmoknijpapedaa
