/- The document's ring of texts: its methods. Conditions: it lies in memory with these texts. -/
import Derived.Test.YtplbgfjemcpcpaaRingS
import Derived.Test.YtplbgfjemcpcpaaOff
namespace Go.Proofs.Ytplbgfjemcpcpaa
open Go.RowKit Go.Conc
set_option linter.unusedVariables false
set_option linter.unusedSimpArgs false

/-- Block b is the document's ring with these texts; G: the blocks that it may write. -/
def refS (w : World) (b : Nat) (G : List Nat) (most : Nat) (P : List ByteArray) : Prop :=
  ∃ v, obj w b 66 [.int .i64 (most : Int), v] ∧ offRow w 0 9 1 v P.length ((P.map cS).flatten) ∧ G = b :: v.ownBlock.toList ∧ P.length ≤ most ∧ most ≤ 1048576
theorem refS.past {w w' : World} {b : Nat} {G L : List Nat} {most : Nat} {P : List ByteArray} (h : refS w b G most P) (hg : turned w w' L) (hL : ∀ k, k ∈ G → k ∉ L) : refS w' b G most P := by
  obtain ⟨v, h1, h2, rfl, h4, h5⟩ := h
  exact ⟨v, h1.past hg (hL b (by simp)), h2.past hg (fun g e => hL g (by simp [e])), rfl, h4, h5⟩
theorem refS.lt {w : World} {b : Nat} {G : List Nat} {most : Nat} {P : List ByteArray} (h : refS w b G most P) : ∀ k, k ∈ G → k < w.heap.size := by
  obtain ⟨v, h1, h2, rfl, h4, h5⟩ := h
  intro k hk
  simp at hk
  rcases hk with rfl | hk
  · exact h1.lt
  · exact (h2.lt k hk).2
theorem refS.drewN {w : World} {b : Nat} {G : List Nat} {most : Nat} {P : List ByteArray} (h : refS w b G most P) (n : Nat) : refS (w.drewN n) b G most P := h
set_option maxHeartbeats 1000000 in
theorem qnew (m : Int) (h : 1 ≤ m ∧ m ≤ 1048576) (w : World) :
    Calls Try.prog 24 #[.int .i64 m] w fun e w' => e = .returned (.tuple #[.pointer (some ⟨w.heap.size, 0, none⟩), .int .i64 0]) ∧ refS w' w.heap.size [w.heap.size] m.toNat [] ∧ turned w w' [] := by
  obtain ⟨h1, h2⟩ := h
  go_enter Try.func24, Try.ntmps24
  go_wp2
  go_ret2
  refine ⟨rfl, ⟨.slice none 0 0, ?_, offRow.nil _ _ _ _, rfl, by simp, by omega⟩, turned_alloc (turned_refl _ _) _⟩
  rw [Int.toNat_of_nonneg (by omega)]
  exact obj.new w 66 [.int .i64 m, .slice none 0 0]
set_option maxHeartbeats 1000000 in
theorem qnew_bad (m : Int) (h : m < 1 ∨ 1048576 < m) (w : World) :
    Calls Try.prog 24 #[.int .i64 m] w fun e w' => e = .returned (.tuple #[.pointer none, .int .i64 1]) ∧ w = w' := by
  rcases h with h | h
  · have d : decide (m < 1) = true := decide_eq_true h
    go_enter Try.func24, Try.ntmps24
    go_wp2
    go_ret2
    exact ⟨rfl, rfl⟩
  · have d : decide (m < 1) = false := decide_eq_false (by omega)
    have d2 : decide ((1048576 : Int) < m) = true := decide_eq_true h
    go_enter Try.func24, Try.ntmps24
    go_wp2
    go_ret2
    exact ⟨rfl, rfl⟩
set_option maxRecDepth 100000 in
set_option maxHeartbeats 2000000 in
theorem qpush (b : Nat) (G : List Nat) (most : Nat) (P : List ByteArray) (x : ByteArray) (hr : P.length < most) (w : World) (h : refS w b G most P) :
    Calls Try.prog 26 #[.pointer (some ⟨b, 0, none⟩), .string x] w fun e w' => e = .returned (.bool true) ∧ (∃ G', refS w' b G' most (P ++ [x]) ∧ newFoot w G G') ∧ turned w w' G := by
  obtain ⟨v, h1, h2, rfl, h4, h5⟩ := h
  obtain ⟨a, c, rfl, hc1, hc2, _⟩ := h2.form
  have hc2' : c ≤ 9223372036854775807 := hc2
  have c0 := h1.cell 0 rfl
  have c1 := h1.cell 1 rfl
  have f1 := h1.free 1
  have d0 : ((P.length : Int) == (most : Int)) = false := beq_eq_false_iff_ne.2 (by omega)
  obtain ⟨i0, hi0, hz0, hz1, hz2⟩ := info_parts infoS
  have H1 := Lib.hid h1
  have H2 := Lib.hid h2
  have hbs := h1.lt
  clear h1 h2
  go_enter Try.func26, Try.ntmps26
  go_wp2_with fail
  go_quiet (fail)
  have oN := obj.new (w.drewN nq) 9 [.string x]
  have LN := Lib.hid (show Lies ((w.drewN nq).alloc (.cells #[.string x] 9)) 1 (.slice (some ⟨w.heap.size, 0, none⟩) 1 1) 1 [.string x] from ⟨rfl, _, 1, rfl, Nat.le_refl _, by omega, fun _ => ⟨w.heap.size, 0, rfl, oN.lt, fun j u hu => by rw [Nat.zero_add]; exact oN.cell j hu⟩⟩)
  have T1 := Lib.hid (turned_alloc (turned_drewN w nq []) (.cells #[.string x] 9))
  have H3 := Lib.hid (H2.out.past T1.out (by simp))
  clear oN
  go_wp2_with (first | (at_builtin; refine wpList_append_off _ rfl _ _ 64 rfl 0 9 i0 (.string .empty) 1 16 Try.underlying64 hi0 hz0 hz1 hz2 rfl (by decide) _ P.length _ rfl H3.out _ 1 [.string x] rfl LN.out (by intro u hu; simp at hu; subst hu; rfl) (by unfold maxLen; omega) (by omega) (by omega) ?_) | go_in)
  intro v' w3 ho hg hl
  have o3 := (H1.out.past T1.out (by simp)).kept hg (fun e => H3.out.ne (H1.out.past T1.out (by simp)) (by decide) e.symm)
  have hnb : v'.ownBlock ≠ some b := ho.ne o3 (by decide)
  obtain ⟨va, vc, rfl, _⟩ := ho.form
  have k1 := o3.cell 1 rfl
  have kf := o3.free 1
  have hb3 := o3.lt
  have O3 := Lib.hid o3
  have HO := Lib.hid ho
  have HG := Lib.hid hg
  have HL := Lib.hid hl
  have HNB := Lib.hid hnb
  clear ho hg hl o3 hnb c0 c1 f1 d0
  go_wp2_with fail
  go_ret
  have hw3 := T1.out.2.2.2.1
  refine ⟨rfl, ⟨b :: (Value.slice va (P.length + 1) vc).ownBlock.toList, ⟨.slice va (P.length + 1) vc, O3.out.set 1 _, ?_, rfl, by simp; omega, h5⟩, fun k hk => ?_⟩, ?_⟩
  · rw [List.length_append, List.map_append, List.flatten_append]
    exact HO.out.kept (only_set (only_refl w3 (some b)) _) (.inr HNB.out)
  · simp only [List.mem_cons, Option.mem_toList] at hk ⊢
    rcases hk with rfl | hk
    · exact .inl (.inl rfl)
    · rcases HL.out with e | e
      · rw [e] at hk; exact .inl (.inr hk)
      · exact .inr (by have h9 := e k hk; first | omega | (simp at h9; omega))
  · refine turned_set ?_ (by simp) _
    refine turned_grown (turned_more T1.out (by simp)) HG.out (fun k e => .inl (by simp [e]))
set_option maxRecDepth 100000 in
set_option maxHeartbeats 2000000 in
theorem qpush_full (b : Nat) (G : List Nat) (most : Nat) (P : List ByteArray) (x : ByteArray) (hr : ¬ P.length < most) (w : World) (h : refS w b G most P) :
    Calls Try.prog 26 #[.pointer (some ⟨b, 0, none⟩), .string x] w fun e w' => e = .returned (.bool false) ∧ turned w w' [] := by
  obtain ⟨v, h1, h2, rfl, h4, h5⟩ := h
  obtain ⟨a, c, rfl, hc1, hc2, _⟩ := h2.form
  have hc2' : c ≤ 9223372036854775807 := hc2
  have c0 := h1.cell 0 rfl
  have c1 := h1.cell 1 rfl
  have d0 : ((P.length : Int) == (most : Int)) = true := beq_iff_eq.2 (by omega)
  clear h1 h2
  go_enter Try.func26, Try.ntmps26
  go_wp2_with fail
  go_quiet (fail)
  go_wp2_with fail
  go_ret
  exact ⟨rfl, turned_drewN w nq []⟩
set_option maxRecDepth 100000 in
set_option maxHeartbeats 2000000 in
theorem qpop (b : Nat) (G : List Nat) (most : Nat) (P : List ByteArray) (x : ByteArray) (w : World) (h : refS w b G most (x :: P)) :
    Calls Try.prog 28 #[.pointer (some ⟨b, 0, none⟩)] w fun e w' => e = .returned (.tuple #[.string x, .bool true]) ∧ (∃ G', refS w' b G' most P ∧ newFoot w G G') ∧ turned w w' G := by
  obtain ⟨v, h1, h2, rfl, h4, h5⟩ := h
  obtain ⟨a, c, rfl, hc1, hc2, ha⟩ := h2.form
  obtain ⟨g, off, rfl⟩ := ha (by simp)
  have hc2' : c ≤ 9223372036854775807 := hc2
  rw [List.length_cons] at *
  have c0 := h1.cell 0 rfl
  have c1 := h1.cell 1 rfl
  have f1 := h1.free 1
  have e0 := h2.cellAt 0 (u := .string x) rfl
  have d0 : (((P.length + 1 : Nat) : Int) == 0) = false := beq_eq_false_iff_ne.2 (by omega)
  have h3 := h2.from_ 1 (by omega)
  have hne := h2.ne h1 (by decide)
  have H1 := Lib.hid h1
  have H3 := Lib.hid h3
  have HNE := Lib.hid hne
  clear h1 h2 ha h3 hne
  rw [Nat.add_zero] at e0
  by_cases hcc : c = 1
  · subst hcc
    have hP : P = [] := List.eq_nil_of_length_eq_zero (by omega)
    subst hP
    go_enter Try.func28, Try.ntmps28
    go_wp2_with fail
    go_ret2
    have hh := H3.out
    rw [if_pos trivial] at hh
    refine ⟨rfl, ⟨_, ⟨_, H1.out.set 1 _, hh.kept (only_set (only_refl w (some b)) _) (.inr HNE.out), rfl, by simp, h5⟩, fun k hk => .inl hk⟩, turned_set (turned_refl _ _) (by simp) _⟩
  · go_enter Try.func28, Try.ntmps28
    go_wp2_with fail
    go_ret2
    have hh := H3.out
    rw [if_neg hcc] at hh
    refine ⟨rfl, ⟨_, ⟨_, H1.out.set 1 _, hh.kept (only_set (only_refl w (some b)) _) (.inr HNE.out), rfl, by omega, h5⟩, fun k hk => .inl hk⟩, turned_set (turned_refl _ _) (by simp) _⟩
set_option maxRecDepth 100000 in
set_option maxHeartbeats 2000000 in
theorem qpop_empty (b : Nat) (G : List Nat) (most : Nat) (w : World) (h : refS w b G most []) :
    Calls Try.prog 28 #[.pointer (some ⟨b, 0, none⟩)] w fun e w' => e = .returned (.tuple #[.string ⟨#[]⟩, .bool false]) ∧ w = w' := by
  obtain ⟨v, h1, h2, rfl, h4, h5⟩ := h
  obtain ⟨a, c, rfl, hc1, hc2, _⟩ := h2.form
  have c1 := h1.cell 1 rfl
  clear h1 h2
  simp only [List.length_nil] at *
  go_enter Try.func28, Try.ntmps28
  go_wp2_with fail
  go_ret2
  exact ⟨rfl, rfl⟩
set_option maxRecDepth 100000 in
set_option maxHeartbeats 2000000 in
theorem qat (b : Nat) (G : List Nat) (most : Nat) (P : List ByteArray) (i : Nat) (x : ByteArray) (hi : P[i]? = some x) (w : World) (h : refS w b G most P) :
    Calls Try.prog 30 #[.pointer (some ⟨b, 0, none⟩), .int .i64 (i : Int)] w fun e w' => e = .returned (.tuple #[.string x, .bool true]) ∧ w = w' := by
  obtain ⟨v, h1, h2, rfl, h4, h5⟩ := h
  have hil : i < P.length := (List.getElem?_eq_some_iff.1 hi).1
  obtain ⟨a, c, rfl, hc1, hc2, ha⟩ := h2.form
  obtain ⟨g, off, rfl⟩ := ha (by omega)
  have hc2' : c ≤ 9223372036854775807 := hc2
  have c1 := h1.cell 1 rfl
  have e0 := h2.cellAt i (u := .string x) (by rw [flatS_at, hi]; rfl)
  have d0 : decide ((P.length : Int) ≤ (i : Int)) = false := decide_eq_false (by omega)
  clear h1 h2 ha hi
  go_enter Try.func30, Try.ntmps30
  go_wp2_with fail
  go_ret2
  exact ⟨rfl, rfl⟩
set_option maxRecDepth 100000 in
set_option maxHeartbeats 2000000 in
theorem qat_no (b : Nat) (G : List Nat) (most : Nat) (P : List ByteArray) (i : Int) (hi : i < 0 ∨ (P.length : Int) ≤ i) (w : World) (h : refS w b G most P) :
    Calls Try.prog 30 #[.pointer (some ⟨b, 0, none⟩), .int .i64 i] w fun e w' => e = .returned (.tuple #[.string ⟨#[]⟩, .bool false]) ∧ w = w' := by
  obtain ⟨v, h1, h2, rfl, h4, h5⟩ := h
  obtain ⟨a, c, rfl, hc1, hc2, ha⟩ := h2.form
  have c1 := h1.cell 1 rfl
  clear h1 h2 ha
  by_cases h0 : i < 0
  · have d : decide (i < 0) = true := decide_eq_true h0
    go_enter Try.func30, Try.ntmps30
    go_wp2_with fail
    go_ret2
    exact ⟨rfl, rfl⟩
  · have d : decide (i < 0) = false := decide_eq_false h0
    have d2 : decide ((P.length : Int) ≤ i) = true := decide_eq_true (by omega)
    go_enter Try.func30, Try.ntmps30
    go_wp2_with fail
    go_ret2
    exact ⟨rfl, rfl⟩
end Go.Proofs.Ytplbgfjemcpcpaa
