/- meant: what the document answers to a thing done. Conditions: what its methods answer. -/
import Derived.Test.YtibnjakiagcopaaOutqRef9
namespace Go.Proofs.Ytibnjakiagcopaa
open Go.RowKit Go.Deep
set_option linter.unusedVariables false
set_option linter.unusedSimpArgs false

set_option maxRecDepth 100000 in
set_option maxHeartbeats 4000000 in
theorem meant_put (rv : Value) (x : OD) (w : World) (L : List Nat) (num E : Int) (Q : World → Prop) (hk : x.k = 0) (hL : ∀ k, k ∈ L → k < w.heap.size)
    (HN : ∀ w1, turned w w1 [] → Calls Try.prog 32 #[rv, .agg #[.int .u16 x.m.s, .bool x.m.o, .slice x.m.ba x.m.bn x.m.bc], .int .i64 x.un] w1 fun e w' => e = .returned (.tuple #[.int .i64 num, .int .i64 E]) ∧ turned w1 w' L ∧ ∀ w'' M, turned w' w'' M → (∀ k, k ∈ M → w.heap.size ≤ k ∧ k < w1.heap.size) → Q w'') :
    Calls Try.prog 19 #[rv, .agg (cOD x).toArray] w fun e w'' => e = .returned (.agg (told DD.zero (.slice none 0 0) num true E).toArray) ∧ turned w w'' L ∧ Q w'' := by
  obtain ⟨k, ⟨s, o, ba, bn, bc⟩, un, n⟩ := x
  simp only at hk HN
  subst hk
  simp only [cOD]
  have t3 := turned_alloc (turned_alloc (turned_alloc (turned_refl w []) (.cells #[.int .i64 0, .int .u16 s, .bool o, .slice ba bn bc, .int .i64 un, .int .i64 n] 51)) (.cells #[.int .u32 0, .int .u16 0, .int .u16 0, .bool false, .bool false, .bool false, .slice none 0 0, .int .i64 0, .bool false, .int .i64 0] 48)) (.cells #[.int .u32 0, .int .u16 0, .int .u16 0, .bool false, .bool false, .bool false, .slice none 0 0, .int .i64 0, .bool false, .int .i64 0] 48)
  have s1 : (w.alloc (.cells #[.int .i64 0, .int .u16 s, .bool o, .slice ba bn bc, .int .i64 un, .int .i64 n] 51)).heap.size = w.heap.size + 1 := by simp
  have s2 : ((w.alloc (.cells #[.int .i64 0, .int .u16 s, .bool o, .slice ba bn bc, .int .i64 un, .int .i64 n] 51)).alloc (.cells #[.int .u32 0, .int .u16 0, .int .u16 0, .bool false, .bool false, .bool false, .slice none 0 0, .int .i64 0, .bool false, .int .i64 0] 48)).heap.size = w.heap.size + 1 + 1 := by simp
  have s3 : (((w.alloc (.cells #[.int .i64 0, .int .u16 s, .bool o, .slice ba bn bc, .int .i64 un, .int .i64 n] 51)).alloc (.cells #[.int .u32 0, .int .u16 0, .int .u16 0, .bool false, .bool false, .bool false, .slice none 0 0, .int .i64 0, .bool false, .int .i64 0] 48)).alloc (.cells #[.int .u32 0, .int .u16 0, .int .u16 0, .bool false, .bool false, .bool false, .slice none 0 0, .int .i64 0, .bool false, .int .i64 0] 48)).heap.size = w.heap.size + 1 + 1 + 1 := by simp
  have o4 := (obj.new (w.alloc (.cells #[.int .i64 0, .int .u16 s, .bool o, .slice ba bn bc, .int .i64 un, .int .i64 n] 51)) 48 [.int .u32 0, .int .u16 0, .int .u16 0, .bool false, .bool false, .bool false, .slice none 0 0, .int .i64 0, .bool false, .int .i64 0]).alloc (.cells #[.int .u32 0, .int .u16 0, .int .u16 0, .bool false, .bool false, .bool false, .slice none 0 0, .int .i64 0, .bool false, .int .i64 0] 48)
  have o5 := obj.new ((w.alloc (.cells #[.int .i64 0, .int .u16 s, .bool o, .slice ba bn bc, .int .i64 un, .int .i64 n] 51)).alloc (.cells #[.int .u32 0, .int .u16 0, .int .u16 0, .bool false, .bool false, .bool false, .slice none 0 0, .int .i64 0, .bool false, .int .i64 0] 48)) 48 [.int .u32 0, .int .u16 0, .int .u16 0, .bool false, .bool false, .bool false, .slice none 0 0, .int .i64 0, .bool false, .int .i64 0]
  rw [s1] at o4
  rw [s2] at o5
  have HL := Lib.hid hL
  have S3 := Lib.hid s3
  have T3 := Lib.hid t3
  have O4 := Lib.hid o4
  have O5 := Lib.hid o5
  have HH := Lib.hid (HN _ t3)
  clear HN hL t3 o4 o5 s1 s2 s3
  go_enter Try.func19, Try.ntmps19
  go_wp2_with fail
  refine HH.out.mono ?_
  rintro e w2 ⟨rfl, t2, hQ⟩
  have hold : ∀ k, w.heap.size ≤ k → k ∉ L := fun k hk e => by have := HL.out k e; omega
  have v5 := O5.out.past t2 (hold _ (by omega))
  have v4 := O4.out.past t2 (hold _ (by omega))
  have z7 := v5.cell 7 rfl
  have z8 := v5.cell 8 rfl
  have z9 := v5.cell 9 rfl
  have f7 := v5.free 7
  have f8 := v5.free 8
  have f9 := v5.free 9
  have P5 := Lib.hid v5
  have P4 := Lib.hid v4
  have T2 := Lib.hid t2
  have HQ := Lib.hid hQ
  clear v5 v4 t2 hQ
  go_upto_region 12 with (fail)
  obtain ⟨w4, hw4⟩ : ∃ w4, ((w2.setCell ⟨w.heap.size + 1 + 1, 7, none⟩ (.int .i64 num)).setCell ⟨w.heap.size + 1 + 1, 9, none⟩ (.int .i64 E)).setCell ⟨w.heap.size + 1 + 1, 8, none⟩ (.bool true) = w4 := ⟨_, rfl⟩
  have t24 : turned w2 w4 [w.heap.size + 1 + 1] := hw4 ▸ turned_set (turned_set (turned_set (turned_refl _ _) (by simp) _) (by simp) _) (by simp) _
  have V5 := Lib.hid (show obj w4 (w.heap.size + 1 + 1) 48 [.int .u32 0, .int .u16 0, .int .u16 0, .bool false, .bool false, .bool false, .slice none 0 0, .int .i64 num, .bool true, .int .i64 E] from hw4 ▸ ((P5.out.set 7 _).set 9 _).set 8 _)
  have V4 := Lib.hid (P4.out.past t24 (by simp))
  have T24 := Lib.hid t24
  rw [hw4]
  clear hw4 t24 z7 z8 z9 f7 f8 f9
  have tw := turned_setRow w4 (w.heap.size + 1) #[.int .u32 0, .int .u16 0, .int .u16 0, .bool false, .bool false, .bool false, .slice none 0 0, .int .i64 num, .bool true, .int .i64 E]
  have hV := setRow_heap w4 (w.heap.size + 1) _ #[.int .u32 0, .int .u16 0, .int .u16 0, .bool false, .bool false, .bool false, .slice none 0 0, .int .i64 num, .bool true, .int .i64 E] _ _ V4.out
  have TW := Lib.hid tw
  have HV := Lib.hid hV
  clear tw hV
  go_wp2_with (first
    | (refine wpList_load_row rfl _ _ rfl (w.heap.size + 1 + 1) rfl _ _ _ _ V5.out Try.underlying48 rfl (by kernel_rfl) ?_)
    | (refine wpList_store_row rfl _ _ _ rfl (w.heap.size + 1) #[.int .u32 0, .int .u16 0, .int .u16 0, .bool false, .bool false, .bool false, .slice none 0 0, .int .i64 num, .bool true, .int .i64 E] rfl rfl 48 _ V4.out (by kernel_rfl) rfl (by rw [← Array.all_toList]; rfl) ?_)
    | fail)
  (try simp only [Exit.inBlock, Exit.then])
  refine bodyPost_ret (results_cell_row rfl _ _ (w.heap.size + 1) 48 #[.int .u32 0, .int .u16 0, .int .u16 0, .bool false, .bool false, .bool false, .slice none 0 0, .int .i64 num, .bool true, .int .i64 E] (0, 0) _ rfl HV.out Try.underlying48 rfl (by kernel_rfl)) rfl ?_
  have tf := turned_trans (turned_more T24.out (M := [w.heap.size + 1 + 1, w.heap.size + 1]) (by simp)) (turned_more TW.out (by simp))
  refine ⟨rfl, turned_narrow (turned_trans (turned_more (turned_trans (turned_more T3.out (by simp)) T2.out) (fun q hq => List.mem_append_left [w.heap.size + 1 + 1, w.heap.size + 1] hq)) (turned_more tf (fun q hq => List.mem_append_right L hq))) (fun q hq => ?_), HQ.out _ _ tf (fun q hq => ?_)⟩
  · rcases List.mem_append.1 hq with h | h
    · exact .inl h
    · simp only [List.mem_cons, List.not_mem_nil, or_false] at h
      rcases h with rfl | rfl <;> exact .inr (by omega)
  · simp only [List.mem_cons, List.not_mem_nil, or_false] at hq
    rw [S3.out]
    rcases hq with rfl | rfl <;> omega
set_option maxRecDepth 100000 in
set_option maxHeartbeats 4000000 in
theorem meant_next (rv : Value) (x : OD) (w : World) (L : List Nat) (d : DD) (num : Int) (is : Bool) (bl : Nat) (Q : Value → World → Prop) (hk : x.k = 1) (hL : ∀ k, k ∈ L → k < w.heap.size)
    (HN : ∀ w1, turned w w1 [] → Calls Try.prog 33 #[rv, .int .i64 x.n] w1 fun e w' => ∃ a c, e = .returned (.tuple #[.agg #[.int .u32 d.t, .int .u16 d.s, .int .u16 d.n, .bool d.u, .bool d.f, .bool d.l, .slice a bl c], .int .i64 num, .bool is]) ∧ turned w1 w' L ∧ ∀ w'' M, turned w' w'' M → (∀ k, k ∈ M → w.heap.size ≤ k ∧ k < w1.heap.size) → Q (.slice a bl c) w'') :
    Calls Try.prog 19 #[rv, .agg (cOD x).toArray] w fun e w'' => ∃ a c, e = .returned (.agg (told d (.slice a bl c) num is 0).toArray) ∧ turned w w'' L ∧ Q (.slice a bl c) w'' := by
  obtain ⟨k, ⟨s, o, ba, bn, bc⟩, un, n⟩ := x
  simp only at hk HN
  subst hk
  simp only [cOD]
  have t3 := turned_alloc (turned_alloc (turned_alloc (turned_refl w []) (.cells #[.int .i64 1, .int .u16 s, .bool o, .slice ba bn bc, .int .i64 un, .int .i64 n] 51)) (.cells #[.int .u32 0, .int .u16 0, .int .u16 0, .bool false, .bool false, .bool false, .slice none 0 0, .int .i64 0, .bool false, .int .i64 0] 48)) (.cells #[.int .u32 0, .int .u16 0, .int .u16 0, .bool false, .bool false, .bool false, .slice none 0 0, .int .i64 0, .bool false, .int .i64 0] 48)
  have s1 : (w.alloc (.cells #[.int .i64 1, .int .u16 s, .bool o, .slice ba bn bc, .int .i64 un, .int .i64 n] 51)).heap.size = w.heap.size + 1 := by simp
  have s2 : ((w.alloc (.cells #[.int .i64 1, .int .u16 s, .bool o, .slice ba bn bc, .int .i64 un, .int .i64 n] 51)).alloc (.cells #[.int .u32 0, .int .u16 0, .int .u16 0, .bool false, .bool false, .bool false, .slice none 0 0, .int .i64 0, .bool false, .int .i64 0] 48)).heap.size = w.heap.size + 1 + 1 := by simp
  have s3 : (((w.alloc (.cells #[.int .i64 1, .int .u16 s, .bool o, .slice ba bn bc, .int .i64 un, .int .i64 n] 51)).alloc (.cells #[.int .u32 0, .int .u16 0, .int .u16 0, .bool false, .bool false, .bool false, .slice none 0 0, .int .i64 0, .bool false, .int .i64 0] 48)).alloc (.cells #[.int .u32 0, .int .u16 0, .int .u16 0, .bool false, .bool false, .bool false, .slice none 0 0, .int .i64 0, .bool false, .int .i64 0] 48)).heap.size = w.heap.size + 1 + 1 + 1 := by simp
  have o4 := (obj.new (w.alloc (.cells #[.int .i64 1, .int .u16 s, .bool o, .slice ba bn bc, .int .i64 un, .int .i64 n] 51)) 48 [.int .u32 0, .int .u16 0, .int .u16 0, .bool false, .bool false, .bool false, .slice none 0 0, .int .i64 0, .bool false, .int .i64 0]).alloc (.cells #[.int .u32 0, .int .u16 0, .int .u16 0, .bool false, .bool false, .bool false, .slice none 0 0, .int .i64 0, .bool false, .int .i64 0] 48)
  have o5 := obj.new ((w.alloc (.cells #[.int .i64 1, .int .u16 s, .bool o, .slice ba bn bc, .int .i64 un, .int .i64 n] 51)).alloc (.cells #[.int .u32 0, .int .u16 0, .int .u16 0, .bool false, .bool false, .bool false, .slice none 0 0, .int .i64 0, .bool false, .int .i64 0] 48)) 48 [.int .u32 0, .int .u16 0, .int .u16 0, .bool false, .bool false, .bool false, .slice none 0 0, .int .i64 0, .bool false, .int .i64 0]
  rw [s1] at o4
  rw [s2] at o5
  have HL := Lib.hid hL
  have S3 := Lib.hid s3
  have T3 := Lib.hid t3
  have O4 := Lib.hid o4
  have O5 := Lib.hid o5
  have HH := Lib.hid (HN _ t3)
  clear HN hL t3 o4 o5 s1 s2 s3
  go_enter Try.func19, Try.ntmps19
  go_wp2_with fail
  refine HH.out.mono ?_
  rintro e w2 ⟨a, c, rfl, t2, hQ⟩
  have hold : ∀ k, w.heap.size ≤ k → k ∉ L := fun k hk e => by have := HL.out k e; omega
  have v5 := O5.out.past t2 (hold _ (by omega))
  have v4 := O4.out.past t2 (hold _ (by omega))
  have hth : w2.there (w.heap.size + 1 + 1) 0 7 := fun j hj => by
    rw [Nat.zero_add]
    exact ⟨by rw [v5.cell j (v := ([.int .u32 0, .int .u16 0, .int .u16 0, .bool false, .bool false, .bool false, .slice none 0 0, .int .i64 0, .bool false, .int .i64 0] : List Value)[j]'(by simp; omega)) (List.getElem?_eq_getElem _)]; rfl, v5.free j⟩
  obtain ⟨q1, q2⟩ := setCells_block [.int .u32 d.t, .int .u16 d.s, .int .u16 d.n, .bool d.u, .bool d.f, .bool d.l, .slice a bl c] w2 0 _ v5
  obtain ⟨w3, hw3⟩ : ∃ w3, w2.setCells (w.heap.size + 1 + 1) 0 [.int .u32 d.t, .int .u16 d.s, .int .u16 d.n, .bool d.u, .bool d.f, .bool d.l, .slice a bl c] = w3 := ⟨_, rfl⟩
  have v5' : obj w3 (w.heap.size + 1 + 1) 48 [.int .u32 d.t, .int .u16 d.s, .int .u16 d.n, .bool d.u, .bool d.f, .bool d.l, .slice a bl c, .int .i64 0, .bool false, .int .i64 0] := by rw [← hw3]; exact q1
  have t23 : turned w2 w3 [w.heap.size + 1 + 1] := turned_grown (turned_refl _ _) (hw3 ▸ q2) (fun k e => by cases e; exact .inl (by simp))
  have z7 := v5'.cell 7 rfl
  have z8 := v5'.cell 8 rfl
  have f7 := v5'.free 7
  have f8 := v5'.free 8
  have P5 := Lib.hid v5'
  have P4 := Lib.hid (v4.past t23 (by simp))
  have T2 := Lib.hid t2
  have T23 := Lib.hid t23
  have HQ := Lib.hid hQ
  have HTH := Lib.hid hth
  have HW3 := Lib.hid hw3
  clear v5 v4 v5' t2 t23 hQ hth q1 q2 hw3
  go_upto_region 12 with (first
    | (refine wpList_store_mid rfl _ _ _ rfl (w.heap.size + 1 + 1) 0 #[.int .u32 d.t, .int .u16 d.s, .int .u16 d.n, .bool d.u, .bool d.f, .bool d.l, .slice a bl c] rfl rfl HTH.out (by kernel_rfl) (by rw [← Array.all_toList]; rfl) ?_; rw [HW3.out])
    | fail)
  obtain ⟨w4, hw4⟩ : ∃ w4, (w3.setCell ⟨w.heap.size + 1 + 1, 7, none⟩ (.int .i64 num)).setCell ⟨w.heap.size + 1 + 1, 8, none⟩ (.bool is) = w4 := ⟨_, rfl⟩
  have t24 : turned w2 w4 [w.heap.size + 1 + 1] := hw4 ▸ turned_set (turned_set T23.out (by simp) _) (by simp) _
  have V5 := Lib.hid (show obj w4 (w.heap.size + 1 + 1) 48 [.int .u32 d.t, .int .u16 d.s, .int .u16 d.n, .bool d.u, .bool d.f, .bool d.l, .slice a bl c, .int .i64 num, .bool is, .int .i64 0] from hw4 ▸ (P5.out.set 7 _).set 8 _)
  have V4 := Lib.hid (P4.out.past (hw4 ▸ turned_set (turned_set (turned_refl w3 [w.heap.size + 1 + 1]) (by simp) _) (by simp) _ : turned w3 w4 [w.heap.size + 1 + 1]) (by simp))
  have T24 := Lib.hid t24
  rw [hw4]
  clear hw4 t24 z7 z8 f7 f8
  have tw := turned_setRow w4 (w.heap.size + 1) #[.int .u32 d.t, .int .u16 d.s, .int .u16 d.n, .bool d.u, .bool d.f, .bool d.l, .slice a bl c, .int .i64 num, .bool is, .int .i64 0]
  have hV := setRow_heap w4 (w.heap.size + 1) _ #[.int .u32 d.t, .int .u16 d.s, .int .u16 d.n, .bool d.u, .bool d.f, .bool d.l, .slice a bl c, .int .i64 num, .bool is, .int .i64 0] _ _ V4.out
  have TW := Lib.hid tw
  have HV := Lib.hid hV
  clear tw hV
  go_wp2_with (first
    | (refine wpList_load_row rfl _ _ rfl (w.heap.size + 1 + 1) rfl _ _ _ _ V5.out Try.underlying48 rfl (by kernel_rfl) ?_)
    | (refine wpList_store_row rfl _ _ _ rfl (w.heap.size + 1) #[.int .u32 d.t, .int .u16 d.s, .int .u16 d.n, .bool d.u, .bool d.f, .bool d.l, .slice a bl c, .int .i64 num, .bool is, .int .i64 0] rfl rfl 48 _ V4.out (by kernel_rfl) rfl (by rw [← Array.all_toList]; rfl) ?_)
    | fail)
  (try simp only [Exit.inBlock, Exit.then])
  refine bodyPost_ret (results_cell_row rfl _ _ (w.heap.size + 1) 48 #[.int .u32 d.t, .int .u16 d.s, .int .u16 d.n, .bool d.u, .bool d.f, .bool d.l, .slice a bl c, .int .i64 num, .bool is, .int .i64 0] (0, 0) _ rfl HV.out Try.underlying48 rfl (by kernel_rfl)) rfl ?_
  have tf := turned_trans (turned_more T24.out (M := [w.heap.size + 1 + 1, w.heap.size + 1]) (by simp)) (turned_more TW.out (by simp))
  refine ⟨a, c, rfl, turned_narrow (turned_trans (turned_more (turned_trans (turned_more T3.out (by simp)) T2.out) (fun q hq => List.mem_append_left [w.heap.size + 1 + 1, w.heap.size + 1] hq)) (turned_more tf (fun q hq => List.mem_append_right L hq))) (fun q hq => ?_), HQ.out _ _ tf (fun q hq => ?_)⟩
  · rcases List.mem_append.1 hq with h | h
    · exact .inl h
    · simp only [List.mem_cons, List.not_mem_nil, or_false] at h
      rcases h with rfl | rfl <;> exact .inr (by omega)
  · simp only [List.mem_cons, List.not_mem_nil, or_false] at hq
    rw [S3.out]
    rcases hq with rfl | rfl <;> omega
set_option maxRecDepth 100000 in
set_option maxHeartbeats 4000000 in
theorem meant_expire (rv : Value) (x : OD) (w : World) (L : List Nat) (d : DD) (num : Int) (is : Bool) (bl : Nat) (Q : Value → World → Prop) (hk : x.k = 2) (hL : ∀ k, k ∈ L → k < w.heap.size)
    (HN : ∀ w1, turned w w1 [] → Calls Try.prog 34 #[rv, .int .i64 x.un] w1 fun e w' => ∃ a c, e = .returned (.tuple #[.agg #[.int .u32 d.t, .int .u16 d.s, .int .u16 d.n, .bool d.u, .bool d.f, .bool d.l, .slice a bl c], .int .i64 num, .bool is]) ∧ turned w1 w' L ∧ ∀ w'' M, turned w' w'' M → (∀ k, k ∈ M → w.heap.size ≤ k ∧ k < w1.heap.size) → Q (.slice a bl c) w'') :
    Calls Try.prog 19 #[rv, .agg (cOD x).toArray] w fun e w'' => ∃ a c, e = .returned (.agg (told d (.slice a bl c) num is 0).toArray) ∧ turned w w'' L ∧ Q (.slice a bl c) w'' := by
  obtain ⟨k, ⟨s, o, ba, bn, bc⟩, un, n⟩ := x
  simp only at hk HN
  subst hk
  simp only [cOD]
  have t3 := turned_alloc (turned_alloc (turned_alloc (turned_refl w []) (.cells #[.int .i64 2, .int .u16 s, .bool o, .slice ba bn bc, .int .i64 un, .int .i64 n] 51)) (.cells #[.int .u32 0, .int .u16 0, .int .u16 0, .bool false, .bool false, .bool false, .slice none 0 0, .int .i64 0, .bool false, .int .i64 0] 48)) (.cells #[.int .u32 0, .int .u16 0, .int .u16 0, .bool false, .bool false, .bool false, .slice none 0 0, .int .i64 0, .bool false, .int .i64 0] 48)
  have s1 : (w.alloc (.cells #[.int .i64 2, .int .u16 s, .bool o, .slice ba bn bc, .int .i64 un, .int .i64 n] 51)).heap.size = w.heap.size + 1 := by simp
  have s2 : ((w.alloc (.cells #[.int .i64 2, .int .u16 s, .bool o, .slice ba bn bc, .int .i64 un, .int .i64 n] 51)).alloc (.cells #[.int .u32 0, .int .u16 0, .int .u16 0, .bool false, .bool false, .bool false, .slice none 0 0, .int .i64 0, .bool false, .int .i64 0] 48)).heap.size = w.heap.size + 1 + 1 := by simp
  have s3 : (((w.alloc (.cells #[.int .i64 2, .int .u16 s, .bool o, .slice ba bn bc, .int .i64 un, .int .i64 n] 51)).alloc (.cells #[.int .u32 0, .int .u16 0, .int .u16 0, .bool false, .bool false, .bool false, .slice none 0 0, .int .i64 0, .bool false, .int .i64 0] 48)).alloc (.cells #[.int .u32 0, .int .u16 0, .int .u16 0, .bool false, .bool false, .bool false, .slice none 0 0, .int .i64 0, .bool false, .int .i64 0] 48)).heap.size = w.heap.size + 1 + 1 + 1 := by simp
  have o4 := (obj.new (w.alloc (.cells #[.int .i64 2, .int .u16 s, .bool o, .slice ba bn bc, .int .i64 un, .int .i64 n] 51)) 48 [.int .u32 0, .int .u16 0, .int .u16 0, .bool false, .bool false, .bool false, .slice none 0 0, .int .i64 0, .bool false, .int .i64 0]).alloc (.cells #[.int .u32 0, .int .u16 0, .int .u16 0, .bool false, .bool false, .bool false, .slice none 0 0, .int .i64 0, .bool false, .int .i64 0] 48)
  have o5 := obj.new ((w.alloc (.cells #[.int .i64 2, .int .u16 s, .bool o, .slice ba bn bc, .int .i64 un, .int .i64 n] 51)).alloc (.cells #[.int .u32 0, .int .u16 0, .int .u16 0, .bool false, .bool false, .bool false, .slice none 0 0, .int .i64 0, .bool false, .int .i64 0] 48)) 48 [.int .u32 0, .int .u16 0, .int .u16 0, .bool false, .bool false, .bool false, .slice none 0 0, .int .i64 0, .bool false, .int .i64 0]
  rw [s1] at o4
  rw [s2] at o5
  have HL := Lib.hid hL
  have S3 := Lib.hid s3
  have T3 := Lib.hid t3
  have O4 := Lib.hid o4
  have O5 := Lib.hid o5
  have HH := Lib.hid (HN _ t3)
  clear HN hL t3 o4 o5 s1 s2 s3
  go_enter Try.func19, Try.ntmps19
  go_wp2_with fail
  refine HH.out.mono ?_
  rintro e w2 ⟨a, c, rfl, t2, hQ⟩
  have hold : ∀ k, w.heap.size ≤ k → k ∉ L := fun k hk e => by have := HL.out k e; omega
  have v5 := O5.out.past t2 (hold _ (by omega))
  have v4 := O4.out.past t2 (hold _ (by omega))
  have hth : w2.there (w.heap.size + 1 + 1) 0 7 := fun j hj => by
    rw [Nat.zero_add]
    exact ⟨by rw [v5.cell j (v := ([.int .u32 0, .int .u16 0, .int .u16 0, .bool false, .bool false, .bool false, .slice none 0 0, .int .i64 0, .bool false, .int .i64 0] : List Value)[j]'(by simp; omega)) (List.getElem?_eq_getElem _)]; rfl, v5.free j⟩
  obtain ⟨q1, q2⟩ := setCells_block [.int .u32 d.t, .int .u16 d.s, .int .u16 d.n, .bool d.u, .bool d.f, .bool d.l, .slice a bl c] w2 0 _ v5
  obtain ⟨w3, hw3⟩ : ∃ w3, w2.setCells (w.heap.size + 1 + 1) 0 [.int .u32 d.t, .int .u16 d.s, .int .u16 d.n, .bool d.u, .bool d.f, .bool d.l, .slice a bl c] = w3 := ⟨_, rfl⟩
  have v5' : obj w3 (w.heap.size + 1 + 1) 48 [.int .u32 d.t, .int .u16 d.s, .int .u16 d.n, .bool d.u, .bool d.f, .bool d.l, .slice a bl c, .int .i64 0, .bool false, .int .i64 0] := by rw [← hw3]; exact q1
  have t23 : turned w2 w3 [w.heap.size + 1 + 1] := turned_grown (turned_refl _ _) (hw3 ▸ q2) (fun k e => by cases e; exact .inl (by simp))
  have z7 := v5'.cell 7 rfl
  have z8 := v5'.cell 8 rfl
  have f7 := v5'.free 7
  have f8 := v5'.free 8
  have P5 := Lib.hid v5'
  have P4 := Lib.hid (v4.past t23 (by simp))
  have T2 := Lib.hid t2
  have T23 := Lib.hid t23
  have HQ := Lib.hid hQ
  have HTH := Lib.hid hth
  have HW3 := Lib.hid hw3
  clear v5 v4 v5' t2 t23 hQ hth q1 q2 hw3
  go_upto_region 12 with (first
    | (refine wpList_store_mid rfl _ _ _ rfl (w.heap.size + 1 + 1) 0 #[.int .u32 d.t, .int .u16 d.s, .int .u16 d.n, .bool d.u, .bool d.f, .bool d.l, .slice a bl c] rfl rfl HTH.out (by kernel_rfl) (by rw [← Array.all_toList]; rfl) ?_; rw [HW3.out])
    | fail)
  obtain ⟨w4, hw4⟩ : ∃ w4, (w3.setCell ⟨w.heap.size + 1 + 1, 7, none⟩ (.int .i64 num)).setCell ⟨w.heap.size + 1 + 1, 8, none⟩ (.bool is) = w4 := ⟨_, rfl⟩
  have t24 : turned w2 w4 [w.heap.size + 1 + 1] := hw4 ▸ turned_set (turned_set T23.out (by simp) _) (by simp) _
  have V5 := Lib.hid (show obj w4 (w.heap.size + 1 + 1) 48 [.int .u32 d.t, .int .u16 d.s, .int .u16 d.n, .bool d.u, .bool d.f, .bool d.l, .slice a bl c, .int .i64 num, .bool is, .int .i64 0] from hw4 ▸ (P5.out.set 7 _).set 8 _)
  have V4 := Lib.hid (P4.out.past (hw4 ▸ turned_set (turned_set (turned_refl w3 [w.heap.size + 1 + 1]) (by simp) _) (by simp) _ : turned w3 w4 [w.heap.size + 1 + 1]) (by simp))
  have T24 := Lib.hid t24
  rw [hw4]
  clear hw4 t24 z7 z8 f7 f8
  have tw := turned_setRow w4 (w.heap.size + 1) #[.int .u32 d.t, .int .u16 d.s, .int .u16 d.n, .bool d.u, .bool d.f, .bool d.l, .slice a bl c, .int .i64 num, .bool is, .int .i64 0]
  have hV := setRow_heap w4 (w.heap.size + 1) _ #[.int .u32 d.t, .int .u16 d.s, .int .u16 d.n, .bool d.u, .bool d.f, .bool d.l, .slice a bl c, .int .i64 num, .bool is, .int .i64 0] _ _ V4.out
  have TW := Lib.hid tw
  have HV := Lib.hid hV
  clear tw hV
  go_wp2_with (first
    | (refine wpList_load_row rfl _ _ rfl (w.heap.size + 1 + 1) rfl _ _ _ _ V5.out Try.underlying48 rfl (by kernel_rfl) ?_)
    | (refine wpList_store_row rfl _ _ _ rfl (w.heap.size + 1) #[.int .u32 d.t, .int .u16 d.s, .int .u16 d.n, .bool d.u, .bool d.f, .bool d.l, .slice a bl c, .int .i64 num, .bool is, .int .i64 0] rfl rfl 48 _ V4.out (by kernel_rfl) rfl (by rw [← Array.all_toList]; rfl) ?_)
    | fail)
  (try simp only [Exit.inBlock, Exit.then])
  refine bodyPost_ret (results_cell_row rfl _ _ (w.heap.size + 1) 48 #[.int .u32 d.t, .int .u16 d.s, .int .u16 d.n, .bool d.u, .bool d.f, .bool d.l, .slice a bl c, .int .i64 num, .bool is, .int .i64 0] (0, 0) _ rfl HV.out Try.underlying48 rfl (by kernel_rfl)) rfl ?_
  have tf := turned_trans (turned_more T24.out (M := [w.heap.size + 1 + 1, w.heap.size + 1]) (by simp)) (turned_more TW.out (by simp))
  refine ⟨a, c, rfl, turned_narrow (turned_trans (turned_more (turned_trans (turned_more T3.out (by simp)) T2.out) (fun q hq => List.mem_append_left [w.heap.size + 1 + 1, w.heap.size + 1] hq)) (turned_more tf (fun q hq => List.mem_append_right L hq))) (fun q hq => ?_), HQ.out _ _ tf (fun q hq => ?_)⟩
  · rcases List.mem_append.1 hq with h | h
    · exact .inl h
    · simp only [List.mem_cons, List.not_mem_nil, or_false] at h
      rcases h with rfl | rfl <;> exact .inr (by omega)
  · simp only [List.mem_cons, List.not_mem_nil, or_false] at hq
    rw [S3.out]
    rcases hq with rfl | rfl <;> omega
set_option maxRecDepth 100000 in
set_option maxHeartbeats 4000000 in
theorem meant_free (rv : Value) (x : OD) (w : World) (L : List Nat) (Q : World → Prop) (hk : x.k = 3) (hL : ∀ k, k ∈ L → k < w.heap.size)
    (HN : ∀ w1, turned w w1 [] → Calls Try.prog 35 #[rv, .int .i64 x.n] w1 fun e w' => e = .returned (.tuple #[]) ∧ turned w1 w' L ∧ ∀ w'' M, turned w' w'' M → (∀ k, k ∈ M → w.heap.size ≤ k ∧ k < w1.heap.size) → Q w'') :
    Calls Try.prog 19 #[rv, .agg (cOD x).toArray] w fun e w'' => e = .returned (.agg (told DD.zero (.slice none 0 0) 0 false 0).toArray) ∧ turned w w'' L ∧ Q w'' := by
  obtain ⟨k, ⟨s, o, ba, bn, bc⟩, un, n⟩ := x
  simp only at hk HN
  subst hk
  simp only [cOD]
  have t3 := turned_alloc (turned_alloc (turned_alloc (turned_refl w []) (.cells #[.int .i64 3, .int .u16 s, .bool o, .slice ba bn bc, .int .i64 un, .int .i64 n] 51)) (.cells #[.int .u32 0, .int .u16 0, .int .u16 0, .bool false, .bool false, .bool false, .slice none 0 0, .int .i64 0, .bool false, .int .i64 0] 48)) (.cells #[.int .u32 0, .int .u16 0, .int .u16 0, .bool false, .bool false, .bool false, .slice none 0 0, .int .i64 0, .bool false, .int .i64 0] 48)
  have s1 : (w.alloc (.cells #[.int .i64 3, .int .u16 s, .bool o, .slice ba bn bc, .int .i64 un, .int .i64 n] 51)).heap.size = w.heap.size + 1 := by simp
  have s2 : ((w.alloc (.cells #[.int .i64 3, .int .u16 s, .bool o, .slice ba bn bc, .int .i64 un, .int .i64 n] 51)).alloc (.cells #[.int .u32 0, .int .u16 0, .int .u16 0, .bool false, .bool false, .bool false, .slice none 0 0, .int .i64 0, .bool false, .int .i64 0] 48)).heap.size = w.heap.size + 1 + 1 := by simp
  have s3 : (((w.alloc (.cells #[.int .i64 3, .int .u16 s, .bool o, .slice ba bn bc, .int .i64 un, .int .i64 n] 51)).alloc (.cells #[.int .u32 0, .int .u16 0, .int .u16 0, .bool false, .bool false, .bool false, .slice none 0 0, .int .i64 0, .bool false, .int .i64 0] 48)).alloc (.cells #[.int .u32 0, .int .u16 0, .int .u16 0, .bool false, .bool false, .bool false, .slice none 0 0, .int .i64 0, .bool false, .int .i64 0] 48)).heap.size = w.heap.size + 1 + 1 + 1 := by simp
  have o4 := (obj.new (w.alloc (.cells #[.int .i64 3, .int .u16 s, .bool o, .slice ba bn bc, .int .i64 un, .int .i64 n] 51)) 48 [.int .u32 0, .int .u16 0, .int .u16 0, .bool false, .bool false, .bool false, .slice none 0 0, .int .i64 0, .bool false, .int .i64 0]).alloc (.cells #[.int .u32 0, .int .u16 0, .int .u16 0, .bool false, .bool false, .bool false, .slice none 0 0, .int .i64 0, .bool false, .int .i64 0] 48)
  have o5 := obj.new ((w.alloc (.cells #[.int .i64 3, .int .u16 s, .bool o, .slice ba bn bc, .int .i64 un, .int .i64 n] 51)).alloc (.cells #[.int .u32 0, .int .u16 0, .int .u16 0, .bool false, .bool false, .bool false, .slice none 0 0, .int .i64 0, .bool false, .int .i64 0] 48)) 48 [.int .u32 0, .int .u16 0, .int .u16 0, .bool false, .bool false, .bool false, .slice none 0 0, .int .i64 0, .bool false, .int .i64 0]
  rw [s1] at o4
  rw [s2] at o5
  have HL := Lib.hid hL
  have S3 := Lib.hid s3
  have T3 := Lib.hid t3
  have O4 := Lib.hid o4
  have O5 := Lib.hid o5
  have HH := Lib.hid (HN _ t3)
  clear HN hL t3 o4 o5 s1 s2 s3
  go_enter Try.func19, Try.ntmps19
  go_wp2_with fail
  refine HH.out.mono ?_
  rintro e w4 ⟨rfl, t2, hQ⟩
  have hold : ∀ k, w.heap.size ≤ k → k ∉ L := fun k hk e => by have := HL.out k e; omega
  have V5 := Lib.hid (O5.out.past t2 (hold _ (by omega)))
  have V4 := Lib.hid (O4.out.past t2 (hold _ (by omega)))
  have T2 := Lib.hid t2
  have HQ := Lib.hid hQ
  have T24 := Lib.hid (turned_refl w4 [w.heap.size + 1 + 1])
  clear t2 hQ
  have tw := turned_setRow w4 (w.heap.size + 1) #[.int .u32 0, .int .u16 0, .int .u16 0, .bool false, .bool false, .bool false, .slice none 0 0, .int .i64 0, .bool false, .int .i64 0]
  have hV := setRow_heap w4 (w.heap.size + 1) _ #[.int .u32 0, .int .u16 0, .int .u16 0, .bool false, .bool false, .bool false, .slice none 0 0, .int .i64 0, .bool false, .int .i64 0] _ _ V4.out
  have TW := Lib.hid tw
  have HV := Lib.hid hV
  clear tw hV
  go_wp2_with (first
    | (refine wpList_load_row rfl _ _ rfl (w.heap.size + 1 + 1) rfl _ _ _ _ V5.out Try.underlying48 rfl (by kernel_rfl) ?_)
    | (refine wpList_store_row rfl _ _ _ rfl (w.heap.size + 1) #[.int .u32 0, .int .u16 0, .int .u16 0, .bool false, .bool false, .bool false, .slice none 0 0, .int .i64 0, .bool false, .int .i64 0] rfl rfl 48 _ V4.out (by kernel_rfl) rfl (by rw [← Array.all_toList]; rfl) ?_)
    | fail)
  (try simp only [Exit.inBlock, Exit.then])
  refine bodyPost_ret (results_cell_row rfl _ _ (w.heap.size + 1) 48 #[.int .u32 0, .int .u16 0, .int .u16 0, .bool false, .bool false, .bool false, .slice none 0 0, .int .i64 0, .bool false, .int .i64 0] (0, 0) _ rfl HV.out Try.underlying48 rfl (by kernel_rfl)) rfl ?_
  have tf := turned_trans (turned_more T24.out (M := [w.heap.size + 1 + 1, w.heap.size + 1]) (by simp)) (turned_more TW.out (by simp))
  refine ⟨rfl, turned_narrow (turned_trans (turned_more (turned_trans (turned_more T3.out (by simp)) T2.out) (fun q hq => List.mem_append_left [w.heap.size + 1 + 1, w.heap.size + 1] hq)) (turned_more tf (fun q hq => List.mem_append_right L hq))) (fun q hq => ?_), HQ.out _ _ tf (fun q hq => ?_)⟩
  · rcases List.mem_append.1 hq with h | h
    · exact .inl h
    · simp only [List.mem_cons, List.not_mem_nil, or_false] at h
      rcases h with rfl | rfl <;> exact .inr (by omega)
  · simp only [List.mem_cons, List.not_mem_nil, or_false] at hq
    rw [S3.out]
    rcases hq with rfl | rfl <;> omega
set_option maxRecDepth 100000 in
set_option maxHeartbeats 4000000 in
theorem meant_else (rv : Value) (x : OD) (w : World) (h0 : x.k ≠ 0) (h1 : x.k ≠ 1) (h2 : x.k ≠ 2) (h3 : x.k ≠ 3) :
    Calls Try.prog 19 #[rv, .agg (cOD x).toArray] w fun e w'' => e = .returned (.agg (told DD.zero (.slice none 0 0) 0 false 0).toArray) ∧ turned w w'' [] := by
  obtain ⟨k, ⟨s, o, ba, bn, bc⟩, un, n⟩ := x
  simp only at h0 h1 h2 h3
  have d0 : (k == 0) = false := beq_eq_false_iff_ne.2 h0
  have d1 : (k == 1) = false := beq_eq_false_iff_ne.2 h1
  have d2 : (k == 2) = false := beq_eq_false_iff_ne.2 h2
  have d3 : (k == 3) = false := beq_eq_false_iff_ne.2 h3
  simp only [cOD]
  have t3 := turned_alloc (turned_alloc (turned_alloc (turned_refl w []) (.cells #[.int .i64 k, .int .u16 s, .bool o, .slice ba bn bc, .int .i64 un, .int .i64 n] 51)) (.cells #[.int .u32 0, .int .u16 0, .int .u16 0, .bool false, .bool false, .bool false, .slice none 0 0, .int .i64 0, .bool false, .int .i64 0] 48)) (.cells #[.int .u32 0, .int .u16 0, .int .u16 0, .bool false, .bool false, .bool false, .slice none 0 0, .int .i64 0, .bool false, .int .i64 0] 48)
  have s1 : (w.alloc (.cells #[.int .i64 k, .int .u16 s, .bool o, .slice ba bn bc, .int .i64 un, .int .i64 n] 51)).heap.size = w.heap.size + 1 := by simp
  have s2 : ((w.alloc (.cells #[.int .i64 k, .int .u16 s, .bool o, .slice ba bn bc, .int .i64 un, .int .i64 n] 51)).alloc (.cells #[.int .u32 0, .int .u16 0, .int .u16 0, .bool false, .bool false, .bool false, .slice none 0 0, .int .i64 0, .bool false, .int .i64 0] 48)).heap.size = w.heap.size + 1 + 1 := by simp
  have o4 := (obj.new (w.alloc (.cells #[.int .i64 k, .int .u16 s, .bool o, .slice ba bn bc, .int .i64 un, .int .i64 n] 51)) 48 [.int .u32 0, .int .u16 0, .int .u16 0, .bool false, .bool false, .bool false, .slice none 0 0, .int .i64 0, .bool false, .int .i64 0]).alloc (.cells #[.int .u32 0, .int .u16 0, .int .u16 0, .bool false, .bool false, .bool false, .slice none 0 0, .int .i64 0, .bool false, .int .i64 0] 48)
  have o5 := obj.new ((w.alloc (.cells #[.int .i64 k, .int .u16 s, .bool o, .slice ba bn bc, .int .i64 un, .int .i64 n] 51)).alloc (.cells #[.int .u32 0, .int .u16 0, .int .u16 0, .bool false, .bool false, .bool false, .slice none 0 0, .int .i64 0, .bool false, .int .i64 0] 48)) 48 [.int .u32 0, .int .u16 0, .int .u16 0, .bool false, .bool false, .bool false, .slice none 0 0, .int .i64 0, .bool false, .int .i64 0]
  rw [s1] at o4
  rw [s2] at o5
  have T3 := Lib.hid t3
  have O4 := Lib.hid o4
  have O5 := Lib.hid o5
  clear t3 o4 o5 s1 s2 h0 h1 h2 h3
  go_enter Try.func19, Try.ntmps19
  go_upto_region 12 with (fail)
  generalize ((w.alloc _).alloc _).alloc _ = w4 at T3 O4 O5 ⊢
  have tw := turned_setRow w4 (w.heap.size + 1) #[.int .u32 0, .int .u16 0, .int .u16 0, .bool false, .bool false, .bool false, .slice none 0 0, .int .i64 0, .bool false, .int .i64 0]
  have hV := setRow_heap w4 (w.heap.size + 1) _ #[.int .u32 0, .int .u16 0, .int .u16 0, .bool false, .bool false, .bool false, .slice none 0 0, .int .i64 0, .bool false, .int .i64 0] _ _ O4.out
  have TW := Lib.hid tw
  have HV := Lib.hid hV
  clear tw hV
  go_wp2_with (first
    | (refine wpList_load_row rfl _ _ rfl (w.heap.size + 1 + 1) rfl _ _ _ _ O5.out Try.underlying48 rfl (by kernel_rfl) ?_)
    | (refine wpList_store_row rfl _ _ _ rfl (w.heap.size + 1) #[.int .u32 0, .int .u16 0, .int .u16 0, .bool false, .bool false, .bool false, .slice none 0 0, .int .i64 0, .bool false, .int .i64 0] rfl rfl 48 _ O4.out (by kernel_rfl) rfl (by rw [← Array.all_toList]; rfl) ?_)
    | fail)
  (try simp only [Exit.inBlock, Exit.then])
  refine bodyPost_ret (results_cell_row rfl _ _ (w.heap.size + 1) 48 #[.int .u32 0, .int .u16 0, .int .u16 0, .bool false, .bool false, .bool false, .slice none 0 0, .int .i64 0, .bool false, .int .i64 0] (0, 0) _ rfl HV.out Try.underlying48 rfl (by kernel_rfl)) rfl ?_
  exact ⟨rfl, turned_narrow (turned_trans (turned_more T3.out (by simp)) TW.out) (fun q hq => by rw [List.mem_singleton.1 hq]; exact .inr (by omega))⟩
end Go.Proofs.Ytibnjakiagcopaa
