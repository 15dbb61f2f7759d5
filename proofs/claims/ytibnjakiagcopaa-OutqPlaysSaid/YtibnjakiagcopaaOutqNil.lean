/- does on no queue; the walk of OutqNil. Conditions: the bytes are as long as the form lets them be. -/
import Derived.Test.YtibnjakiagcopaaOutqVast
namespace Go.Proofs.Ytibnjakiagcopaa
open Go.RowKit Go.Deep
set_option linter.unusedVariables false
set_option linter.unusedSimpArgs false

theorem Lies.lit {w : World} {b : Nat} {t : TypeId} {cs : List Value} {n sz : Nat} (h : obj w b t cs) (hl : cs.length = n * sz) (hn : n ≤ 1000000) : Lies w sz (.slice (some ⟨b, 0, none⟩) n n) n cs :=
  ⟨hl, _, n, rfl, Nat.le_refl _, by omega, fun _ => ⟨b, 0, rfl, h.lt, fun j u hu => by rw [Nat.zero_add]; exact h.cell j hu⟩⟩
theorem onext_nil' (m : Int) (w : World) : Calls Try.prog 11 #[.pointer none, .int .i64 m] w fun e w' => e = .returned (.tuple #[.agg #[.int .u32 0, .int .u16 0, .int .u16 0, .bool false, .bool false, .bool false, .slice none 0 0], .int .i64 0, .bool false]) ∧ turned w w' [] := onext_nil m w
/-- What no queue answers. -/
theorem does_nil (x : OD) (B : List Int) (w : World) (hB : LiesB w (.slice x.m.ba x.m.bn x.m.bc) B) (hl : B.length ≤ 140737488351232) :
    Calls Try.prog 18 #[.pointer none, .agg (cOD x).toArray] w fun e w' => ∃ a c, e = .returned (.agg (told DD.zero (.slice a 0 c) 0 (decide (x.k = 0)) (if x.k = 0 then 2 else 0)).toArray) ∧ LiesB w' (.slice a 0 c) [] ∧ turned w w' [] := by
  have hn : ∀ w', LiesB w' (.slice none 0 0) [] := fun w' => ⟨Lies.nil w' 1, by simp⟩
  by_cases h0 : x.k = 0
  · rw [decide_eq_true h0, if_pos h0]
    refine (does_put (.pointer none) x B w [] 0 2 (fun _ => True) h0 hB hl (by simp) (fun w' t => hB.none_ t) (fun w1 v t h => ?_)).mono ?_
    · refine (oput_nil _ _ v _ w1).mono ?_
      rintro e w' ⟨rfl, t⟩
      exact ⟨rfl, t, fun _ _ _ _ => trivial⟩
    · rintro e w' ⟨rfl, t, _⟩
      exact ⟨none, 0, rfl, hn w', t⟩
  rw [decide_eq_false h0, if_neg h0]
  by_cases h1 : x.k = 1
  · refine (does_next (.pointer none) x w [] DD.zero 0 false (fun _ => True) h1 (Nat.zero_le _) (by simp) (fun w1 t => ?_)).mono ?_
    · refine (onext_nil' _ w1).mono ?_
      rintro e w' ⟨rfl, t⟩
      exact ⟨none, 0, rfl, World.ownsRow_nil _ _ _ _, by intro y hy; simp [DD.zero] at hy, t, fun _ _ _ _ => trivial⟩
    · rintro e w' ⟨a, c, rfl, hb, t, _⟩
      exact ⟨a, c, rfl, hb, t⟩
  by_cases h2 : x.k = 2
  · refine (does_expire (.pointer none) x w [] DD.zero 0 false (fun _ => True) h2 (Nat.zero_le _) (by simp) (fun w1 t => ?_)).mono ?_
    · refine (oexpire_nil _ w1).mono ?_
      rintro e w' ⟨rfl, t⟩
      exact ⟨none, 0, rfl, World.ownsRow_nil _ _ _ _, by intro y hy; simp [DD.zero] at hy, t, fun _ _ _ _ => trivial⟩
    · rintro e w' ⟨a, c, rfl, hb, t, _⟩
      exact ⟨a, c, rfl, hb, t⟩
  by_cases h3 : x.k = 3
  · refine (does_free (.pointer none) x w [] (fun _ => True) h3 (by simp) (fun w1 t => ?_)).mono ?_
    · refine (ofree_nil _ w1).mono ?_
      rintro e w' ⟨rfl, rfl⟩
      exact ⟨rfl, turned_refl _ _, fun _ _ _ _ => trivial⟩
    · rintro e w' ⟨rfl, t, _⟩
      exact ⟨none, 0, rfl, hn w', t⟩
  · refine (does_else (.pointer none) x w h0 h1 h2 h3).mono ?_
    rintro e w' ⟨rfl, t⟩
    exact ⟨none, 0, rfl, hn w', t⟩
theorem vast_one (B : List Int) : vastly [B] = false := by
  unfold vastly
  rw [Bool.or_eq_false_iff]
  refine ⟨decide_eq_false (by simp), decide_eq_false ?_⟩
  simp only [List.map_cons, List.map_nil, List.sum_cons, List.sum_nil, some21]
  omega
set_option maxRecDepth 100000 in
set_option maxHeartbeats 4000000 in
theorem outqNil_walk (W : World) (x : OD) (B : List Int) (hx : x.ok) (hB : LiesB W (.slice x.m.ba x.m.bn x.m.bc) B) (hl : B.length ≤ 140737488351232) :
    Calls Try.prog 8 #[.agg (cOD x).toArray] W fun e w' => e = .returned (.bool true) ∧ Below W.heap.size W w' := by
  have hdn := fun w h => does_nil x B w h hl
  obtain ⟨k, ⟨s, o, ba, bn, bc⟩, un, n⟩ := x
  simp only at hB hdn
  simp only [cOD] at hdn ⊢
  have ta := turned_alloc (turned_refl W []) (.cells #[.int .i64 k, .int .u16 s, .bool o, .slice ba bn bc, .int .i64 un, .int .i64 n] 51)
  have tb := turned_alloc ta (.cells #[.int .i64 k, .int .u16 s, .bool o, .slice ba bn bc, .int .i64 un, .int .i64 n] 51)
  have o1 := (obj.new W 51 [.int .i64 k, .int .u16 s, .bool o, .slice ba bn bc, .int .i64 un, .int .i64 n]).alloc (.cells #[.int .i64 k, .int .u16 s, .bool o, .slice ba bn bc, .int .i64 un, .int .i64 n] 51)
  have o2 := obj.new (W.alloc (.cells #[.int .i64 k, .int .u16 s, .bool o, .slice ba bn bc, .int .i64 un, .int .i64 n] 51)) 51 [.int .i64 k, .int .u16 s, .bool o, .slice ba bn bc, .int .i64 un, .int .i64 n]
  rw [World.size_alloc] at o2
  have lo := Lib.hid (show LiesO _ (.slice (some ⟨W.heap.size + 1, 0, none⟩) 1 1) [⟨k, ⟨s, o, ba, bn, bc⟩, un, n⟩] [B] from ⟨Lies.lit o2 rfl (by omega), by intro y hy; simp at hy; subst hy; exact hx, rfl, by intro i h h'; simp at h; subst h; exact hB.none_ tb⟩)
  have HV := Lib.hid (vast_one B)
  have HD := Lib.hid hdn
  have HB := Lib.hid hB
  have O1 := Lib.hid o1
  have TB := Lib.hid tb
  clear hdn hB ta tb o1 o2 hx
  go_enter Try.func8, Try.ntmps8
  go_wp2_with fail
  refine (ovast _ _ _ _ lo.out).mono ?_
  rintro e w1 ⟨rfl, q, rfl⟩
  rw [HV.out]
  have O2 := Lib.hid (O1.out.drewN q)
  have T2 := Lib.hid (turned_trans TB.out (turned_drewN _ q []))
  generalize World.drewN _ q = w1 at O2 T2 ⊢
  have c0 := O2.out.cell 0 rfl
  have c1 := O2.out.cell 1 rfl
  have c2 := O2.out.cell 2 rfl
  have c3 := O2.out.cell 3 rfl
  have c4 := O2.out.cell 4 rfl
  have c5 := O2.out.cell 5 rfl
  clear O1 TB lo HV
  go_wp2_with fail
  refine (HD.out w1 (HB.out.none_ T2.out)).mono ?_
  rintro e w2 ⟨a, c, rfl, hb, t2⟩
  obtain ⟨iv, hiv⟩ : ∃ iv, iv = decide (k = 0) := ⟨_, rfl⟩
  obtain ⟨ev, hev⟩ : ∃ ev : Int, ev = if k = 0 then 2 else 0 := ⟨_, rfl⟩
  rw [← hiv, ← hev]
  have hcase : (k = 0 ∧ iv = true ∧ ev = 2) ∨ (((k == 0) = false ∧ (k != 0) = true ∧ ¬ k = 0) ∧ iv = false ∧ ev = 0) := by
    by_cases hk : k = 0
    · exact .inl ⟨hk, by rw [hiv, decide_eq_true hk], by rw [hev, if_pos hk]⟩
    · exact .inr ⟨⟨beq_eq_false_iff_ne.2 hk, bne_iff_ne.2 hk, hk⟩, by rw [hiv, decide_eq_false hk], by rw [hev, if_neg hk]⟩
  clear hiv hev
  have td := turned_alloc (turned_refl w2 []) (.cells #[.int .u32 0, .int .u16 0, .int .u16 0, .bool false, .bool false, .bool false, .slice a 0 c, .int .i64 0, .bool iv, .int .i64 ev] 48)
  have L2 := Lib.hid (hb.none_ td)
  have d0 := ((O2.out.past t2 (by simp)).past td (by simp)).cell 0 rfl
  have T3 := Lib.hid (turned_trans (turned_trans T2.out t2) td)
  clear hb td t2 c0 c1 c2 c3 c4 c5 HD O2
  have hn : ∀ w', LiesB w' (.slice none 0 0) [] := fun w' => ⟨Lies.nil w' 1, by simp⟩
  have HN := Lib.hid hn
  clear hn
  unfold told DD.zero
  rcases hcase with ⟨rfl, rfl, rfl⟩ | ⟨⟨e0, e1, e2⟩, rfl, rfl⟩
  all_goals
    go_wp2_with fail
    refine (osame_yes DD.zero (.slice a 0 c) (.slice none 0 0) _ L2.out (HN.out _)).mono ?_
    rintro e w3 ⟨rfl, t3⟩
    go_wp2_with fail
    refine (osize_nil _).mono ?_
    rintro e w4 ⟨rfl, rfl⟩
    go_wp2_with fail
    refine (owait_nil _).mono ?_
    rintro e w4 ⟨rfl, rfl⟩
    go_wp2_with fail
    refine (oused_nil _).mono ?_
    rintro e w4 ⟨rfl, rfl⟩
    go_wp2_with fail
    refine (works20 _).mono ?_
    rintro e w4 ⟨rfl, t4⟩
    go_wp2_with fail
    go_ret
    exact ⟨rfl, below_turned (Below.refl _ _) (turned_trans (turned_trans T3.out t3) t4) (by simp)⟩
end Go.Proofs.Ytibnjakiagcopaa
