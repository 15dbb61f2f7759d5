/- does: what is done with a queue, at Next, Expire, Free, and at another kind. Conditions: what is answered. -/
import Derived.Test.YtibnjakiagcopaaOutqDoes
namespace Go.Proofs.Ytibnjakiagcopaa
open Go.RowKit Go.Deep
set_option linter.unusedVariables false
set_option linter.unusedSimpArgs false

set_option maxRecDepth 100000 in
set_option maxHeartbeats 4000000 in
theorem does_next (rv : Value) (x : OD) (w : World) (L : List Nat) (d : DD) (num : Int) (is : Bool) (Q : World → Prop) (hk : x.k = 1) (hl : d.B.length ≤ 4000000) (hL : ∀ k, k ∈ L → k < w.heap.size)
    (HN : ∀ w1, turned w w1 [] → Calls Try.prog 11 #[rv, .int .i64 x.n] w1 fun e w' => ∃ a c, e = .returned (.tuple #[.agg #[.int .u32 d.t, .int .u16 d.s, .int .u16 d.n, .bool d.u, .bool d.f, .bool d.l, .slice a d.B.length c], .int .i64 num, .bool is]) ∧ w'.ownsRow w1.heap.size 5 1 (.slice a d.B.length c) d.B.length (flat cB d.B) ∧ bytes d.B ∧ turned w1 w' L ∧
      ∀ w'' M, turned w' w'' M → (∀ k, k ∈ M → (w.heap.size ≤ k ∧ k < w1.heap.size) ∨ (Value.slice a d.B.length c).ownBlock = some k ∨ w'.heap.size ≤ k) → Q w'') :
    Calls Try.prog 18 #[rv, .agg (cOD x).toArray] w fun e w'' => ∃ a c, e = .returned (.agg (told d (.slice a d.B.length c) num is 0).toArray) ∧ LiesB w'' (.slice a d.B.length c) d.B ∧ turned w w'' L ∧ Q w'' ∧ ∀ q, (Value.slice a d.B.length c).ownBlock = some q → w.heap.size ≤ q := by
  obtain ⟨k, ⟨s, o, ba, bn, bc⟩, un, n⟩ := x
  simp only at hk HN
  subst hk
  obtain ⟨i0, hi0, hz0, hz1, hz2⟩ := info_parts infoB
  simp only [cOD]
  have t3 := turned_alloc (turned_alloc (turned_alloc (turned_refl w []) (.cells #[.int .i64 1, .int .u16 s, .bool o, .slice ba bn bc, .int .i64 un, .int .i64 n] 51)) (.cells #[.int .u32 0, .int .u16 0, .int .u16 0, .bool false, .bool false, .bool false, .slice none 0 0, .int .i64 0, .bool false, .int .i64 0] 48)) (.cells #[.int .u32 0, .int .u16 0, .int .u16 0, .bool false, .bool false, .bool false, .slice none 0 0, .int .i64 0, .bool false, .int .i64 0] 48)
  have s1 : (w.alloc (.cells #[.int .i64 1, .int .u16 s, .bool o, .slice ba bn bc, .int .i64 un, .int .i64 n] 51)).heap.size = w.heap.size + 1 := by simp
  have s2 : ((w.alloc (.cells #[.int .i64 1, .int .u16 s, .bool o, .slice ba bn bc, .int .i64 un, .int .i64 n] 51)).alloc (.cells #[.int .u32 0, .int .u16 0, .int .u16 0, .bool false, .bool false, .bool false, .slice none 0 0, .int .i64 0, .bool false, .int .i64 0] 48)).heap.size = w.heap.size + 1 + 1 := by simp
  have s3 : (((w.alloc (.cells #[.int .i64 1, .int .u16 s, .bool o, .slice ba bn bc, .int .i64 un, .int .i64 n] 51)).alloc (.cells #[.int .u32 0, .int .u16 0, .int .u16 0, .bool false, .bool false, .bool false, .slice none 0 0, .int .i64 0, .bool false, .int .i64 0] 48)).alloc (.cells #[.int .u32 0, .int .u16 0, .int .u16 0, .bool false, .bool false, .bool false, .slice none 0 0, .int .i64 0, .bool false, .int .i64 0] 48)).heap.size = w.heap.size + 1 + 1 + 1 := by simp
  have o4 := (obj.new (w.alloc (.cells #[.int .i64 1, .int .u16 s, .bool o, .slice ba bn bc, .int .i64 un, .int .i64 n] 51)) 48 [.int .u32 0, .int .u16 0, .int .u16 0, .bool false, .bool false, .bool false, .slice none 0 0, .int .i64 0, .bool false, .int .i64 0]).alloc (.cells #[.int .u32 0, .int .u16 0, .int .u16 0, .bool false, .bool false, .bool false, .slice none 0 0, .int .i64 0, .bool false, .int .i64 0] 48)
  have o5 := obj.new ((w.alloc (.cells #[.int .i64 1, .int .u16 s, .bool o, .slice ba bn bc, .int .i64 un, .int .i64 n] 51)).alloc (.cells #[.int .u32 0, .int .u16 0, .int .u16 0, .bool false, .bool false, .bool false, .slice none 0 0, .int .i64 0, .bool false, .int .i64 0] 48)) 48 [.int .u32 0, .int .u16 0, .int .u16 0, .bool false, .bool false, .bool false, .slice none 0 0, .int .i64 0, .bool false, .int .i64 0]
  rw [s1] at o4
  rw [s2] at o5
  have HH := Lib.hid (HN _ t3)
  have HL := Lib.hid hL
  have S3 := Lib.hid s3
  have T3 := Lib.hid t3
  have O4 := Lib.hid o4
  have O5 := Lib.hid o5
  clear HN hL t3 o4 o5 s1 s2 s3
  go_enter Try.func18, Try.ntmps18
  go_wp2_with fail
  refine HH.out.mono ?_
  rintro e w2 ⟨a, c, rfl, hr, hby, t2, hQ⟩
  have hold : ∀ k, w.heap.size ≤ k → k ∉ L := fun k hk e => by have := HL.out k e; omega
  have h32 : w.heap.size + 1 + 1 + 1 ≤ w2.heap.size := by have := t2.2.2.2.1; rw [S3.out] at this; exact this
  have td := turned_alloc (turned_refl w2 []) (.cells #[.int .u32 d.t, .int .u16 d.s, .int .u16 d.n, .bool d.u, .bool d.f, .bool d.l, .slice a d.B.length c] 34)
  have q4 := Lib.hid ((O4.out.past t2 (hold _ (by omega))).past td (by simp))
  have q5 := Lib.hid ((O5.out.past t2 (hold _ (by omega))).past td (by simp))
  have D8 := Lib.hid (obj.new w2 34 [.int .u32 d.t, .int .u16 d.s, .int .u16 d.n, .bool d.u, .bool d.f, .bool d.l, .slice a d.B.length c])
  have R2 := Lib.hid (row_past hr td (by simp))
  have TD := Lib.hid td
  have T2 := Lib.hid t2
  have HQ := Lib.hid hQ
  have HBY := Lib.hid hby
  have HRW := Lib.hid (row_lt0 hr)
  have H32 := Lib.hid h32
  clear hr hby t2 hQ td h32
  obtain ⟨bl, hbl⟩ : ∃ bl, bl = d.B.length := ⟨_, rfl⟩
  go_wp2_with (first
    | (refine wpList_store_row rfl _ _ _ rfl (w.heap.size + 1 + 1) #[.int .u32 d.t, .int .u16 d.s, .int .u16 d.n, .bool d.u, .bool d.f, .bool d.l, .slice a d.B.length c, .int .i64 num, .bool is, .int .i64 0] rfl rfl 48 _ q5.out (by kernel_rfl) rfl (by rw [← Array.all_toList]; rfl) ?_; have ts := turned_setRow (w2.alloc (.cells #[.int .u32 d.t, .int .u16 d.s, .int .u16 d.n, .bool d.u, .bool d.f, .bool d.l, .slice a d.B.length c] 34)) (w.heap.size + 1 + 1) #[.int .u32 d.t, .int .u16 d.s, .int .u16 d.n, .bool d.u, .bool d.f, .bool d.l, .slice a d.B.length c, .int .i64 num, .bool is, .int .i64 0]; have hV := setRow_heap (w2.alloc (.cells #[.int .u32 d.t, .int .u16 d.s, .int .u16 d.n, .bool d.u, .bool d.f, .bool d.l, .slice a d.B.length c] 34)) (w.heap.size + 1 + 1) _ #[.int .u32 d.t, .int .u16 d.s, .int .u16 d.n, .bool d.u, .bool d.f, .bool d.l, .slice a d.B.length c, .int .i64 num, .bool is, .int .i64 0] _ _ q5.out; obtain ⟨w3, hw3⟩ : ∃ w3, (w2.alloc (.cells #[.int .u32 d.t, .int .u16 d.s, .int .u16 d.n, .bool d.u, .bool d.f, .bool d.l, .slice a d.B.length c] 34)).setRow (w.heap.size + 1 + 1) #[.int .u32 d.t, .int .u16 d.s, .int .u16 d.n, .bool d.u, .bool d.f, .bool d.l, .slice a d.B.length c, .int .i64 num, .bool is, .int .i64 0] = w3 := ⟨_, rfl⟩; rw [hw3] at ts hV ⊢; have V5 := Lib.hid (show obj w3 (w.heap.size + 1 + 1) 48 [.int .u32 d.t, .int .u16 d.s, .int .u16 d.n, .bool d.u, .bool d.f, .bool d.l, .slice a d.B.length c, .int .i64 num, .bool is, .int .i64 0] from hV); have V4 := Lib.hid (q4.out.past ts (by simp <;> omega)); have V8 := Lib.hid (D8.out.past ts (fun e => q5.out.ne D8.out (by decide) (List.mem_singleton.1 e).symm)); have R3 := Lib.hid (row_past R2.out ts (fun q hq e => row_ne R2.out q5.out (by decide) (by rw [hq, List.mem_singleton.1 e]))); have TS := Lib.hid ts; have te := turned_alloc (turned_refl w3 []) (.cells #[] 5); have u8 := (V8.out.past te (by simp)).cell 6 rfl; have HW := Lib.hid (World.ownsRow_lit (base := w.heap.size) (e := 5) (size := 1) w3 #[] 0 (by have h1 := H32.out; have h2 := TD.out.2.2.2.1; have h3 := TS.out.2.2.2.1; omega) (by decide) rfl); have TE := Lib.hid te; clear ts hV hw3 te)
    | (at_builtin; go_loud (refine wpList_append_lies' _ rfl _ _ 29 rfl w.heap.size 5 i0 (.int .u8 0) 1 1 Try.underlying29 hi0 hz0 hz1 hz2 rfl (by decide) (.slice (some ⟨w3.heap.size, 0, none⟩) 0 0) 0 [] rfl HW.out (.slice a d.B.length c) d.B.length (flat cB d.B) rfl (Lies.row (row_past R3.out TE.out (by simp))) (flat_one cB_one d.B) (by unfold maxLen; omega) (by omega) (by have h1 := H32.out; have h2 := TD.out.2.2.2.1; have h3 := TS.out.2.2.2.1; have h4 := TE.out.2.2.2.1; omega) ?_; intro v' wA ha hg hl'; rw [Nat.zero_add, List.nil_append] at ha; obtain ⟨ra, rc, rfl, _, _, hra⟩ := row_form ha; have hlo : ∀ k, k < w3.heap.size → some k ≠ (Value.slice (some ⟨w3.heap.size, 0, none⟩) 0 0).ownBlock := fun k hk e => (by simp [Value.ownBlock] at e; omega); have p5 := (V5.out.past TE.out (by simp)).kept hg (hlo _ V5.out.lt); have p8 := (V8.out.past TE.out (by simp)).kept hg (hlo _ V8.out.lt); have x6 := p5.cell 6 rfl; have y6 := p5.free 6; have P5 := Lib.hid p5; have P8 := Lib.hid p8; have P4 := Lib.hid ((V4.out.past TE.out (by simp)).kept hg (hlo _ V4.out.lt)); have HG := Lib.hid (turned_new TE.out hg (fun k e => by simp [Value.ownBlock] at e; omega)); have RC := Lib.hid ha; have HL' := Lib.hid hl'; clear ha hg hl' p5 p8 hra hlo))
    | fail)
  obtain ⟨w4, hw4⟩ : ∃ w4, wA.setCell ⟨w.heap.size + 1 + 1, 6, none⟩ (.slice ra d.B.length rc) = w4 := ⟨_, rfl⟩
  have ts : turned wA w4 [w.heap.size + 1 + 1] := hw4 ▸ turned_set (turned_refl _ _) (by simp) _
  have Z5 := Lib.hid (show obj w4 (w.heap.size + 1 + 1) 48 [.int .u32 d.t, .int .u16 d.s, .int .u16 d.n, .bool d.u, .bool d.f, .bool d.l, .slice ra d.B.length rc, .int .i64 num, .bool is, .int .i64 0] from hw4 ▸ P5.out.set 6 _)
  have Z4 := Lib.hid (P4.out.past ts (by simp <;> omega))
  have Z8 := Lib.hid (P8.out.past ts (fun e => P5.out.ne P8.out (by decide) (List.mem_singleton.1 e).symm))
  have rw3 := row_past R3.out HG.out (by simp)
  have RW := Lib.hid (row_past (row_to (b2 := w.heap.size) rw3 (by rw [S3.out]; omega)) ts (fun q hq e => row_ne rw3 P5.out (by decide) (by rw [hq, List.mem_singleton.1 e])))
  have RN := Lib.hid (row_past RC.out ts (fun q hq e => row_ne RC.out P5.out (by decide) (by rw [hq, List.mem_singleton.1 e])))
  have hne : ∀ q, (Value.slice ra d.B.length rc).ownBlock = some q → w3.heap.size ≤ q := fun q hq => by
    rcases HL'.out with h | h
    · rw [hq] at h; simp [Value.ownBlock] at h; omega
    · rw [hq] at h; simp at h; omega
  have HNE := Lib.hid hne
  have TSS := Lib.hid ts
  have h23 : w2.heap.size ≤ w3.heap.size := Nat.le_trans TD.out.2.2.2.1 TS.out.2.2.2.1
  have WW := Lib.hid (show Wiped w4 w.heap.size (.slice a d.B.length c) d.B.length w4 from ⟨d.B, rfl, RW.out, turned_refl _ _⟩)
  obtain ⟨_, _, ea, _, _, hra⟩ := row_form RW.out
  simp only [Value.slice.injEq, true_and] at ea
  obtain ⟨rfl, rfl⟩ := ea
  have HRA := Lib.hid hra
  rw [hw4]
  clear hw4 ts rw3 hne x6 y6 u8 hra
  go_loopw [11] (fun iv wr => ∃ i : Nat, i ≤ d.B.length ∧ iv = .int .i64 (i : Int) ∧ Wiped w4 w.heap.size (.slice a d.B.length c) d.B.length wr) (fun iv _ => d.B.length - (intOf iv).toNat)
  case atStart => exact ⟨0, Nat.zero_le _, rfl, WW.out⟩
  case round =>
    obtain ⟨i, hi, rfl, hw⟩ := hrel
    have v8 := Z8.out.past hw.choose_spec.2.2 (fun e => row_ne WW.out.choose_spec.2.1 Z8.out (by decide) (by simpa using e))
    have x6 := v8.cell 6 rfl
    have HWP := Lib.hid hw
    clear hw v8
    by_cases hlt : i < d.B.length
    · obtain ⟨gr, rfl⟩ := HRA.out (by omega)
      obtain ⟨⟨z, hz⟩, hf⟩ := HWP.out.at_ hlt
      go_wp2_with fail
      go_roundw
      case rel => exact ⟨i + 1, by omega, by go_num, HWP.out.step hlt⟩
      case measure => simp only [intOf]; omega
    · have hib : i = d.B.length := by omega
      subst hib
      have hnl : ¬ (d.B.length : Int) < (d.B.length : Int) := by omega
      have tw := HWP.out.choose_spec.2.2
      have v5 := Z5.out.past tw (fun e => row_ne WW.out.choose_spec.2.1 Z5.out (by decide) (by simpa using e))
      have v4 := Z4.out.past tw (fun e => row_ne WW.out.choose_spec.2.1 Z4.out (by decide) (by simpa using e))
      have z0 := v5.cell 0 rfl
      have z1 := v5.cell 1 rfl
      have z2 := v5.cell 2 rfl
      have z3 := v5.cell 3 rfl
      have z4 := v5.cell 4 rfl
      have z5 := v5.cell 5 rfl
      have z6 := v5.cell 6 rfl
      have z7 := v5.cell 7 rfl
      have z8 := v5.cell 8 rfl
      have z9 := v5.cell 9 rfl
      have Y4 := Lib.hid v4
      have TW := Lib.hid tw
      have LN := Lib.hid (row_past RN.out tw (fun q hq e => by
        have h1 := HNE.out q hq
        have h2 := (HRW.out q (by simpa using e)).2
        omega))
      clear v4 v5 tw
      go_wp2_with (first | (refine wpList_store_row rfl _ _ _ rfl (w.heap.size + 1) #[.int .u32 d.t, .int .u16 d.s, .int .u16 d.n, .bool d.u, .bool d.f, .bool d.l, .slice ra d.B.length rc, .int .i64 num, .bool is, .int .i64 0] rfl rfl 48 _ Y4.out (by kernel_rfl) rfl (by rw [← Array.all_toList]; rfl) ?_; have ts := turned_setRow wr (w.heap.size + 1) #[.int .u32 d.t, .int .u16 d.s, .int .u16 d.n, .bool d.u, .bool d.f, .bool d.l, .slice ra d.B.length rc, .int .i64 num, .bool is, .int .i64 0]; have hD := setRow_heap wr (w.heap.size + 1) _ #[.int .u32 d.t, .int .u16 d.s, .int .u16 d.n, .bool d.u, .bool d.f, .bool d.l, .slice ra d.B.length rc, .int .i64 num, .bool is, .int .i64 0] _ _ Y4.out; have rl := row_past LN.out ts (fun q hq e => row_ne LN.out Y4.out (by decide) (by rw [hq, List.mem_singleton.1 e])); generalize wr.setRow (w.heap.size + 1) #[.int .u32 d.t, .int .u16 d.s, .int .u16 d.n, .bool d.u, .bool d.f, .bool d.l, .slice ra d.B.length rc, .int .i64 num, .bool is, .int .i64 0] = wf at ts hD rl ⊢; have TF := Lib.hid ts; have HD := Lib.hid hD; have RL := Lib.hid rl; clear ts hD rl) | fail)
      (try simp only [Exit.inBlock, Exit.then])
      refine bodyPost_ret (results_cell_row rfl _ _ (w.heap.size + 1) 48 #[.int .u32 d.t, .int .u16 d.s, .int .u16 d.n, .bool d.u, .bool d.f, .bool d.l, .slice ra d.B.length rc, .int .i64 num, .bool is, .int .i64 0] (0, 0) _ rfl HD.out Try.underlying48 rfl (by kernel_rfl)) rfl ?_
      have tf : turned w2 wf ((w.heap.size + 1 + 1) :: (w.heap.size + 1) :: (Value.slice a d.B.length c).ownBlock.toList) := turned_trans (turned_trans (turned_trans (turned_trans (turned_more TD.out (by simp)) (turned_more TS.out (by simp))) (turned_more HG.out (by simp))) (turned_more TSS.out (by simp))) (turned_trans (turned_more TW.out (by intro q hq; simp at hq ⊢; exact .inr (.inr hq))) (turned_more TF.out (by simp)))
      refine ⟨ra, rc, rfl, ⟨Lies.row RL.out, HBY.out⟩, turned_narrow (turned_trans (turned_more (turned_trans (turned_more T3.out (by simp)) T2.out) (fun q hq => List.mem_append_left ((w.heap.size + 1 + 1) :: (w.heap.size + 1) :: (Value.slice a d.B.length c).ownBlock.toList) hq)) (turned_more tf (fun q hq => List.mem_append_right L hq))) (fun q hq => ?_), HQ.out wf _ tf (fun q hq => ?_), fun q hq => (row_lt0 RL.out q hq).1⟩
      · rcases List.mem_append.1 hq with h | h
        · exact .inl h
        · refine .inr ?_
          simp only [List.mem_cons, Option.mem_toList] at h
          rcases h with rfl | rfl | h
          · omega
          · omega
          · have h1 := (HRW.out q h).1
            rw [S3.out] at h1
            omega
      · simp only [List.mem_cons, Option.mem_toList] at hq
        rw [S3.out]
        rcases hq with rfl | rfl | h
        · exact .inl ⟨by omega, by omega⟩
        · exact .inl ⟨by omega, by omega⟩
        · exact .inr (.inl h)
set_option maxRecDepth 100000 in
set_option maxHeartbeats 4000000 in
theorem does_expire (rv : Value) (x : OD) (w : World) (L : List Nat) (d : DD) (num : Int) (is : Bool) (Q : World → Prop) (hk : x.k = 2) (hl : d.B.length ≤ 4000000) (hL : ∀ k, k ∈ L → k < w.heap.size)
    (HN : ∀ w1, turned w w1 [] → Calls Try.prog 12 #[rv, .int .i64 x.un] w1 fun e w' => ∃ a c, e = .returned (.tuple #[.agg #[.int .u32 d.t, .int .u16 d.s, .int .u16 d.n, .bool d.u, .bool d.f, .bool d.l, .slice a d.B.length c], .int .i64 num, .bool is]) ∧ w'.ownsRow w1.heap.size 5 1 (.slice a d.B.length c) d.B.length (flat cB d.B) ∧ bytes d.B ∧ turned w1 w' L ∧
      ∀ w'' M, turned w' w'' M → (∀ k, k ∈ M → (w.heap.size ≤ k ∧ k < w1.heap.size) ∨ (Value.slice a d.B.length c).ownBlock = some k ∨ w'.heap.size ≤ k) → Q w'') :
    Calls Try.prog 18 #[rv, .agg (cOD x).toArray] w fun e w'' => ∃ a c, e = .returned (.agg (told d (.slice a d.B.length c) num is 0).toArray) ∧ LiesB w'' (.slice a d.B.length c) d.B ∧ turned w w'' L ∧ Q w'' ∧ ∀ q, (Value.slice a d.B.length c).ownBlock = some q → w.heap.size ≤ q := by
  obtain ⟨k, ⟨s, o, ba, bn, bc⟩, un, n⟩ := x
  simp only at hk HN
  subst hk
  obtain ⟨i0, hi0, hz0, hz1, hz2⟩ := info_parts infoB
  simp only [cOD]
  have t3 := turned_alloc (turned_alloc (turned_alloc (turned_refl w []) (.cells #[.int .i64 2, .int .u16 s, .bool o, .slice ba bn bc, .int .i64 un, .int .i64 n] 51)) (.cells #[.int .u32 0, .int .u16 0, .int .u16 0, .bool false, .bool false, .bool false, .slice none 0 0, .int .i64 0, .bool false, .int .i64 0] 48)) (.cells #[.int .u32 0, .int .u16 0, .int .u16 0, .bool false, .bool false, .bool false, .slice none 0 0, .int .i64 0, .bool false, .int .i64 0] 48)
  have s1 : (w.alloc (.cells #[.int .i64 2, .int .u16 s, .bool o, .slice ba bn bc, .int .i64 un, .int .i64 n] 51)).heap.size = w.heap.size + 1 := by simp
  have s2 : ((w.alloc (.cells #[.int .i64 2, .int .u16 s, .bool o, .slice ba bn bc, .int .i64 un, .int .i64 n] 51)).alloc (.cells #[.int .u32 0, .int .u16 0, .int .u16 0, .bool false, .bool false, .bool false, .slice none 0 0, .int .i64 0, .bool false, .int .i64 0] 48)).heap.size = w.heap.size + 1 + 1 := by simp
  have s3 : (((w.alloc (.cells #[.int .i64 2, .int .u16 s, .bool o, .slice ba bn bc, .int .i64 un, .int .i64 n] 51)).alloc (.cells #[.int .u32 0, .int .u16 0, .int .u16 0, .bool false, .bool false, .bool false, .slice none 0 0, .int .i64 0, .bool false, .int .i64 0] 48)).alloc (.cells #[.int .u32 0, .int .u16 0, .int .u16 0, .bool false, .bool false, .bool false, .slice none 0 0, .int .i64 0, .bool false, .int .i64 0] 48)).heap.size = w.heap.size + 1 + 1 + 1 := by simp
  have o4 := (obj.new (w.alloc (.cells #[.int .i64 2, .int .u16 s, .bool o, .slice ba bn bc, .int .i64 un, .int .i64 n] 51)) 48 [.int .u32 0, .int .u16 0, .int .u16 0, .bool false, .bool false, .bool false, .slice none 0 0, .int .i64 0, .bool false, .int .i64 0]).alloc (.cells #[.int .u32 0, .int .u16 0, .int .u16 0, .bool false, .bool false, .bool false, .slice none 0 0, .int .i64 0, .bool false, .int .i64 0] 48)
  have o5 := obj.new ((w.alloc (.cells #[.int .i64 2, .int .u16 s, .bool o, .slice ba bn bc, .int .i64 un, .int .i64 n] 51)).alloc (.cells #[.int .u32 0, .int .u16 0, .int .u16 0, .bool false, .bool false, .bool false, .slice none 0 0, .int .i64 0, .bool false, .int .i64 0] 48)) 48 [.int .u32 0, .int .u16 0, .int .u16 0, .bool false, .bool false, .bool false, .slice none 0 0, .int .i64 0, .bool false, .int .i64 0]
  rw [s1] at o4
  rw [s2] at o5
  have HH := Lib.hid (HN _ t3)
  have HL := Lib.hid hL
  have S3 := Lib.hid s3
  have T3 := Lib.hid t3
  have O4 := Lib.hid o4
  have O5 := Lib.hid o5
  clear HN hL t3 o4 o5 s1 s2 s3
  go_enter Try.func18, Try.ntmps18
  go_wp2_with fail
  refine HH.out.mono ?_
  rintro e w2 ⟨a, c, rfl, hr, hby, t2, hQ⟩
  have hold : ∀ k, w.heap.size ≤ k → k ∉ L := fun k hk e => by have := HL.out k e; omega
  have h32 : w.heap.size + 1 + 1 + 1 ≤ w2.heap.size := by have := t2.2.2.2.1; rw [S3.out] at this; exact this
  have td := turned_alloc (turned_refl w2 []) (.cells #[.int .u32 d.t, .int .u16 d.s, .int .u16 d.n, .bool d.u, .bool d.f, .bool d.l, .slice a d.B.length c] 34)
  have q4 := Lib.hid ((O4.out.past t2 (hold _ (by omega))).past td (by simp))
  have q5 := Lib.hid ((O5.out.past t2 (hold _ (by omega))).past td (by simp))
  have D8 := Lib.hid (obj.new w2 34 [.int .u32 d.t, .int .u16 d.s, .int .u16 d.n, .bool d.u, .bool d.f, .bool d.l, .slice a d.B.length c])
  have R2 := Lib.hid (row_past hr td (by simp))
  have TD := Lib.hid td
  have T2 := Lib.hid t2
  have HQ := Lib.hid hQ
  have HBY := Lib.hid hby
  have HRW := Lib.hid (row_lt0 hr)
  have H32 := Lib.hid h32
  clear hr hby t2 hQ td h32
  obtain ⟨bl, hbl⟩ : ∃ bl, bl = d.B.length := ⟨_, rfl⟩
  go_wp2_with (first
    | (refine wpList_store_row rfl _ _ _ rfl (w.heap.size + 1 + 1) #[.int .u32 d.t, .int .u16 d.s, .int .u16 d.n, .bool d.u, .bool d.f, .bool d.l, .slice a d.B.length c, .int .i64 num, .bool is, .int .i64 0] rfl rfl 48 _ q5.out (by kernel_rfl) rfl (by rw [← Array.all_toList]; rfl) ?_; have ts := turned_setRow (w2.alloc (.cells #[.int .u32 d.t, .int .u16 d.s, .int .u16 d.n, .bool d.u, .bool d.f, .bool d.l, .slice a d.B.length c] 34)) (w.heap.size + 1 + 1) #[.int .u32 d.t, .int .u16 d.s, .int .u16 d.n, .bool d.u, .bool d.f, .bool d.l, .slice a d.B.length c, .int .i64 num, .bool is, .int .i64 0]; have hV := setRow_heap (w2.alloc (.cells #[.int .u32 d.t, .int .u16 d.s, .int .u16 d.n, .bool d.u, .bool d.f, .bool d.l, .slice a d.B.length c] 34)) (w.heap.size + 1 + 1) _ #[.int .u32 d.t, .int .u16 d.s, .int .u16 d.n, .bool d.u, .bool d.f, .bool d.l, .slice a d.B.length c, .int .i64 num, .bool is, .int .i64 0] _ _ q5.out; obtain ⟨w3, hw3⟩ : ∃ w3, (w2.alloc (.cells #[.int .u32 d.t, .int .u16 d.s, .int .u16 d.n, .bool d.u, .bool d.f, .bool d.l, .slice a d.B.length c] 34)).setRow (w.heap.size + 1 + 1) #[.int .u32 d.t, .int .u16 d.s, .int .u16 d.n, .bool d.u, .bool d.f, .bool d.l, .slice a d.B.length c, .int .i64 num, .bool is, .int .i64 0] = w3 := ⟨_, rfl⟩; rw [hw3] at ts hV ⊢; have V5 := Lib.hid (show obj w3 (w.heap.size + 1 + 1) 48 [.int .u32 d.t, .int .u16 d.s, .int .u16 d.n, .bool d.u, .bool d.f, .bool d.l, .slice a d.B.length c, .int .i64 num, .bool is, .int .i64 0] from hV); have V4 := Lib.hid (q4.out.past ts (by simp <;> omega)); have V8 := Lib.hid (D8.out.past ts (fun e => q5.out.ne D8.out (by decide) (List.mem_singleton.1 e).symm)); have R3 := Lib.hid (row_past R2.out ts (fun q hq e => row_ne R2.out q5.out (by decide) (by rw [hq, List.mem_singleton.1 e]))); have TS := Lib.hid ts; have te := turned_alloc (turned_refl w3 []) (.cells #[] 5); have u8 := (V8.out.past te (by simp)).cell 6 rfl; have HW := Lib.hid (World.ownsRow_lit (base := w.heap.size) (e := 5) (size := 1) w3 #[] 0 (by have h1 := H32.out; have h2 := TD.out.2.2.2.1; have h3 := TS.out.2.2.2.1; omega) (by decide) rfl); have TE := Lib.hid te; clear ts hV hw3 te)
    | (at_builtin; go_loud (refine wpList_append_lies' _ rfl _ _ 29 rfl w.heap.size 5 i0 (.int .u8 0) 1 1 Try.underlying29 hi0 hz0 hz1 hz2 rfl (by decide) (.slice (some ⟨w3.heap.size, 0, none⟩) 0 0) 0 [] rfl HW.out (.slice a d.B.length c) d.B.length (flat cB d.B) rfl (Lies.row (row_past R3.out TE.out (by simp))) (flat_one cB_one d.B) (by unfold maxLen; omega) (by omega) (by have h1 := H32.out; have h2 := TD.out.2.2.2.1; have h3 := TS.out.2.2.2.1; have h4 := TE.out.2.2.2.1; omega) ?_; intro v' wA ha hg hl'; rw [Nat.zero_add, List.nil_append] at ha; obtain ⟨ra, rc, rfl, _, _, hra⟩ := row_form ha; have hlo : ∀ k, k < w3.heap.size → some k ≠ (Value.slice (some ⟨w3.heap.size, 0, none⟩) 0 0).ownBlock := fun k hk e => (by simp [Value.ownBlock] at e; omega); have p5 := (V5.out.past TE.out (by simp)).kept hg (hlo _ V5.out.lt); have p8 := (V8.out.past TE.out (by simp)).kept hg (hlo _ V8.out.lt); have x6 := p5.cell 6 rfl; have y6 := p5.free 6; have P5 := Lib.hid p5; have P8 := Lib.hid p8; have P4 := Lib.hid ((V4.out.past TE.out (by simp)).kept hg (hlo _ V4.out.lt)); have HG := Lib.hid (turned_new TE.out hg (fun k e => by simp [Value.ownBlock] at e; omega)); have RC := Lib.hid ha; have HL' := Lib.hid hl'; clear ha hg hl' p5 p8 hra hlo))
    | fail)
  obtain ⟨w4, hw4⟩ : ∃ w4, wA.setCell ⟨w.heap.size + 1 + 1, 6, none⟩ (.slice ra d.B.length rc) = w4 := ⟨_, rfl⟩
  have ts : turned wA w4 [w.heap.size + 1 + 1] := hw4 ▸ turned_set (turned_refl _ _) (by simp) _
  have Z5 := Lib.hid (show obj w4 (w.heap.size + 1 + 1) 48 [.int .u32 d.t, .int .u16 d.s, .int .u16 d.n, .bool d.u, .bool d.f, .bool d.l, .slice ra d.B.length rc, .int .i64 num, .bool is, .int .i64 0] from hw4 ▸ P5.out.set 6 _)
  have Z4 := Lib.hid (P4.out.past ts (by simp <;> omega))
  have Z8 := Lib.hid (P8.out.past ts (fun e => P5.out.ne P8.out (by decide) (List.mem_singleton.1 e).symm))
  have rw3 := row_past R3.out HG.out (by simp)
  have RW := Lib.hid (row_past (row_to (b2 := w.heap.size) rw3 (by rw [S3.out]; omega)) ts (fun q hq e => row_ne rw3 P5.out (by decide) (by rw [hq, List.mem_singleton.1 e])))
  have RN := Lib.hid (row_past RC.out ts (fun q hq e => row_ne RC.out P5.out (by decide) (by rw [hq, List.mem_singleton.1 e])))
  have hne : ∀ q, (Value.slice ra d.B.length rc).ownBlock = some q → w3.heap.size ≤ q := fun q hq => by
    rcases HL'.out with h | h
    · rw [hq] at h; simp [Value.ownBlock] at h; omega
    · rw [hq] at h; simp at h; omega
  have HNE := Lib.hid hne
  have TSS := Lib.hid ts
  have h23 : w2.heap.size ≤ w3.heap.size := Nat.le_trans TD.out.2.2.2.1 TS.out.2.2.2.1
  have WW := Lib.hid (show Wiped w4 w.heap.size (.slice a d.B.length c) d.B.length w4 from ⟨d.B, rfl, RW.out, turned_refl _ _⟩)
  obtain ⟨_, _, ea, _, _, hra⟩ := row_form RW.out
  simp only [Value.slice.injEq, true_and] at ea
  obtain ⟨rfl, rfl⟩ := ea
  have HRA := Lib.hid hra
  rw [hw4]
  clear hw4 ts rw3 hne x6 y6 u8 hra
  go_loopw [15] (fun iv wr => ∃ i : Nat, i ≤ d.B.length ∧ iv = .int .i64 (i : Int) ∧ Wiped w4 w.heap.size (.slice a d.B.length c) d.B.length wr) (fun iv _ => d.B.length - (intOf iv).toNat)
  case atStart => exact ⟨0, Nat.zero_le _, rfl, WW.out⟩
  case round =>
    obtain ⟨i, hi, rfl, hw⟩ := hrel
    have v8 := Z8.out.past hw.choose_spec.2.2 (fun e => row_ne WW.out.choose_spec.2.1 Z8.out (by decide) (by simpa using e))
    have x6 := v8.cell 6 rfl
    have HWP := Lib.hid hw
    clear hw v8
    by_cases hlt : i < d.B.length
    · obtain ⟨gr, rfl⟩ := HRA.out (by omega)
      obtain ⟨⟨z, hz⟩, hf⟩ := HWP.out.at_ hlt
      go_wp2_with fail
      go_roundw
      case rel => exact ⟨i + 1, by omega, by go_num, HWP.out.step hlt⟩
      case measure => simp only [intOf]; omega
    · have hib : i = d.B.length := by omega
      subst hib
      have hnl : ¬ (d.B.length : Int) < (d.B.length : Int) := by omega
      have tw := HWP.out.choose_spec.2.2
      have v5 := Z5.out.past tw (fun e => row_ne WW.out.choose_spec.2.1 Z5.out (by decide) (by simpa using e))
      have v4 := Z4.out.past tw (fun e => row_ne WW.out.choose_spec.2.1 Z4.out (by decide) (by simpa using e))
      have z0 := v5.cell 0 rfl
      have z1 := v5.cell 1 rfl
      have z2 := v5.cell 2 rfl
      have z3 := v5.cell 3 rfl
      have z4 := v5.cell 4 rfl
      have z5 := v5.cell 5 rfl
      have z6 := v5.cell 6 rfl
      have z7 := v5.cell 7 rfl
      have z8 := v5.cell 8 rfl
      have z9 := v5.cell 9 rfl
      have Y4 := Lib.hid v4
      have TW := Lib.hid tw
      have LN := Lib.hid (row_past RN.out tw (fun q hq e => by
        have h1 := HNE.out q hq
        have h2 := (HRW.out q (by simpa using e)).2
        omega))
      clear v4 v5 tw
      go_wp2_with (first | (refine wpList_store_row rfl _ _ _ rfl (w.heap.size + 1) #[.int .u32 d.t, .int .u16 d.s, .int .u16 d.n, .bool d.u, .bool d.f, .bool d.l, .slice ra d.B.length rc, .int .i64 num, .bool is, .int .i64 0] rfl rfl 48 _ Y4.out (by kernel_rfl) rfl (by rw [← Array.all_toList]; rfl) ?_; have ts := turned_setRow wr (w.heap.size + 1) #[.int .u32 d.t, .int .u16 d.s, .int .u16 d.n, .bool d.u, .bool d.f, .bool d.l, .slice ra d.B.length rc, .int .i64 num, .bool is, .int .i64 0]; have hD := setRow_heap wr (w.heap.size + 1) _ #[.int .u32 d.t, .int .u16 d.s, .int .u16 d.n, .bool d.u, .bool d.f, .bool d.l, .slice ra d.B.length rc, .int .i64 num, .bool is, .int .i64 0] _ _ Y4.out; have rl := row_past LN.out ts (fun q hq e => row_ne LN.out Y4.out (by decide) (by rw [hq, List.mem_singleton.1 e])); generalize wr.setRow (w.heap.size + 1) #[.int .u32 d.t, .int .u16 d.s, .int .u16 d.n, .bool d.u, .bool d.f, .bool d.l, .slice ra d.B.length rc, .int .i64 num, .bool is, .int .i64 0] = wf at ts hD rl ⊢; have TF := Lib.hid ts; have HD := Lib.hid hD; have RL := Lib.hid rl; clear ts hD rl) | fail)
      (try simp only [Exit.inBlock, Exit.then])
      refine bodyPost_ret (results_cell_row rfl _ _ (w.heap.size + 1) 48 #[.int .u32 d.t, .int .u16 d.s, .int .u16 d.n, .bool d.u, .bool d.f, .bool d.l, .slice ra d.B.length rc, .int .i64 num, .bool is, .int .i64 0] (0, 0) _ rfl HD.out Try.underlying48 rfl (by kernel_rfl)) rfl ?_
      have tf : turned w2 wf ((w.heap.size + 1 + 1) :: (w.heap.size + 1) :: (Value.slice a d.B.length c).ownBlock.toList) := turned_trans (turned_trans (turned_trans (turned_trans (turned_more TD.out (by simp)) (turned_more TS.out (by simp))) (turned_more HG.out (by simp))) (turned_more TSS.out (by simp))) (turned_trans (turned_more TW.out (by intro q hq; simp at hq ⊢; exact .inr (.inr hq))) (turned_more TF.out (by simp)))
      refine ⟨ra, rc, rfl, ⟨Lies.row RL.out, HBY.out⟩, turned_narrow (turned_trans (turned_more (turned_trans (turned_more T3.out (by simp)) T2.out) (fun q hq => List.mem_append_left ((w.heap.size + 1 + 1) :: (w.heap.size + 1) :: (Value.slice a d.B.length c).ownBlock.toList) hq)) (turned_more tf (fun q hq => List.mem_append_right L hq))) (fun q hq => ?_), HQ.out wf _ tf (fun q hq => ?_), fun q hq => (row_lt0 RL.out q hq).1⟩
      · rcases List.mem_append.1 hq with h | h
        · exact .inl h
        · refine .inr ?_
          simp only [List.mem_cons, Option.mem_toList] at h
          rcases h with rfl | rfl | h
          · omega
          · omega
          · have h1 := (HRW.out q h).1
            rw [S3.out] at h1
            omega
      · simp only [List.mem_cons, Option.mem_toList] at hq
        rw [S3.out]
        rcases hq with rfl | rfl | h
        · exact .inl ⟨by omega, by omega⟩
        · exact .inl ⟨by omega, by omega⟩
        · exact .inr (.inl h)
set_option maxRecDepth 100000 in
set_option maxHeartbeats 4000000 in
theorem does_free (rv : Value) (x : OD) (w : World) (L : List Nat) (Q : World → Prop) (hk : x.k = 3) (hL : ∀ k, k ∈ L → k < w.heap.size)
    (HN : ∀ w1, turned w w1 [] → Calls Try.prog 25 #[rv, .int .i64 x.n] w1 fun e w' => e = .returned (.tuple #[]) ∧ turned w1 w' L ∧
      ∀ w'' M, turned w' w'' M → (∀ k, k ∈ M → w.heap.size ≤ k ∧ k < w1.heap.size) → Q w'') :
    Calls Try.prog 18 #[rv, .agg (cOD x).toArray] w fun e w'' => e = .returned (.agg (told DD.zero (.slice none 0 0) 0 false 0).toArray) ∧ turned w w'' L ∧ Q w'' := by
  obtain ⟨k, ⟨s, o, ba, bn, bc⟩, un, n⟩ := x
  simp only at hk HN
  subst hk
  simp only [cOD]
  have t3 := turned_alloc (turned_alloc (turned_alloc (turned_refl w []) (.cells #[.int .i64 3, .int .u16 s, .bool o, .slice ba bn bc, .int .i64 un, .int .i64 n] 51)) (.cells #[.int .u32 0, .int .u16 0, .int .u16 0, .bool false, .bool false, .bool false, .slice none 0 0, .int .i64 0, .bool false, .int .i64 0] 48)) (.cells #[.int .u32 0, .int .u16 0, .int .u16 0, .bool false, .bool false, .bool false, .slice none 0 0, .int .i64 0, .bool false, .int .i64 0] 48)
  have s1 : (w.alloc (.cells #[.int .i64 3, .int .u16 s, .bool o, .slice ba bn bc, .int .i64 un, .int .i64 n] 51)).heap.size = w.heap.size + 1 := by simp
  have s2 : ((w.alloc (.cells #[.int .i64 3, .int .u16 s, .bool o, .slice ba bn bc, .int .i64 un, .int .i64 n] 51)).alloc (.cells #[.int .u32 0, .int .u16 0, .int .u16 0, .bool false, .bool false, .bool false, .slice none 0 0, .int .i64 0, .bool false, .int .i64 0] 48)).heap.size = w.heap.size + 1 + 1 := by simp
  have s3 : (((w.alloc (.cells #[.int .i64 3, .int .u16 s, .bool o, .slice ba bn bc, .int .i64 un, .int .i64 n] 51)).alloc (.cells #[.int .u32 0, .int .u16 0, .int .u16 0, .bool false, .bool false, .bool false, .slice none 0 0, .int .i64 0, .bool false, .int .i64 0] 48)).alloc (.cells #[.int .u32 0, .int .u16 0, .int .u16 0, .bool false, .bool false, .bool false, .slice none 0 0, .int .i64 0, .bool false, .int .i64 0] 48)).heap.size = w.heap.size + 1 + 1 + 1 := by simp
  have o4 := (obj.new (w.alloc (.cells #[.int .i64 3, .int .u16 s, .bool o, .slice ba bn bc, .int .i64 un, .int .i64 n] 51)) 48 [.int .u32 0, .int .u16 0, .int .u16 0, .bool false, .bool false, .bool false, .slice none 0 0, .int .i64 0, .bool false, .int .i64 0]).alloc (.cells #[.int .u32 0, .int .u16 0, .int .u16 0, .bool false, .bool false, .bool false, .slice none 0 0, .int .i64 0, .bool false, .int .i64 0] 48)
  have o5 := obj.new ((w.alloc (.cells #[.int .i64 3, .int .u16 s, .bool o, .slice ba bn bc, .int .i64 un, .int .i64 n] 51)).alloc (.cells #[.int .u32 0, .int .u16 0, .int .u16 0, .bool false, .bool false, .bool false, .slice none 0 0, .int .i64 0, .bool false, .int .i64 0] 48)) 48 [.int .u32 0, .int .u16 0, .int .u16 0, .bool false, .bool false, .bool false, .slice none 0 0, .int .i64 0, .bool false, .int .i64 0]
  rw [s1] at o4
  rw [s2] at o5
  have HH := Lib.hid (HN _ t3)
  have HL := Lib.hid hL
  have S3 := Lib.hid s3
  have T3 := Lib.hid t3
  have O4 := Lib.hid o4
  have O5 := Lib.hid o5
  clear HN hL t3 o4 o5 s1 s2 s3
  go_enter Try.func18, Try.ntmps18
  go_wp2_with fail
  refine HH.out.mono ?_
  rintro e w2 ⟨rfl, t2, hQ⟩
  have hold : ∀ k, w.heap.size ≤ k → k ∉ L := fun k hk e => by have := HL.out k e; omega
  have v5 := O5.out.past t2 (hold _ (by omega))
  have z0 := v5.cell 0 rfl
  have z1 := v5.cell 1 rfl
  have z2 := v5.cell 2 rfl
  have z3 := v5.cell 3 rfl
  have z4 := v5.cell 4 rfl
  have z5 := v5.cell 5 rfl
  have z6 := v5.cell 6 rfl
  have z7 := v5.cell 7 rfl
  have z8 := v5.cell 8 rfl
  have z9 := v5.cell 9 rfl
  have Y4 := Lib.hid (O4.out.past t2 (hold _ (by omega)))
  have T2 := Lib.hid t2
  have HQ := Lib.hid hQ
  clear v5 t2 hQ
  go_wp2_with (first | (refine wpList_store_row rfl _ _ _ rfl (w.heap.size + 1) #[.int .u32 0, .int .u16 0, .int .u16 0, .bool false, .bool false, .bool false, .slice none 0 0, .int .i64 0, .bool false, .int .i64 0] rfl rfl 48 _ Y4.out (by kernel_rfl) rfl (by rw [← Array.all_toList]; rfl) ?_; have ts := turned_setRow w2 (w.heap.size + 1) #[.int .u32 0, .int .u16 0, .int .u16 0, .bool false, .bool false, .bool false, .slice none 0 0, .int .i64 0, .bool false, .int .i64 0]; have hD := setRow_heap w2 (w.heap.size + 1) _ #[.int .u32 0, .int .u16 0, .int .u16 0, .bool false, .bool false, .bool false, .slice none 0 0, .int .i64 0, .bool false, .int .i64 0] _ _ Y4.out; generalize w2.setRow (w.heap.size + 1) #[.int .u32 0, .int .u16 0, .int .u16 0, .bool false, .bool false, .bool false, .slice none 0 0, .int .i64 0, .bool false, .int .i64 0] = wf at ts hD ⊢; have TF := Lib.hid ts; have HD := Lib.hid hD; clear ts hD) | fail)
  (try simp only [Exit.inBlock, Exit.then])
  refine bodyPost_ret (results_cell_row rfl _ _ (w.heap.size + 1) 48 #[.int .u32 0, .int .u16 0, .int .u16 0, .bool false, .bool false, .bool false, .slice none 0 0, .int .i64 0, .bool false, .int .i64 0] (0, 0) _ rfl HD.out Try.underlying48 rfl (by kernel_rfl)) rfl ?_
  refine ⟨rfl, turned_narrow (turned_trans (turned_more (turned_trans (turned_more T3.out (by simp)) T2.out) (fun q hq => List.mem_append_left [w.heap.size + 1] hq)) (turned_more TF.out (fun q hq => List.mem_append_right L hq))) (fun q hq => ?_), HQ.out wf _ TF.out (fun q hq => ?_)⟩
  · rcases List.mem_append.1 hq with h | h
    · exact .inl h
    · rw [List.mem_singleton.1 h]; exact .inr (by omega)
  · rw [List.mem_singleton.1 hq, S3.out]
    exact ⟨by omega, by omega⟩
set_option maxRecDepth 100000 in
set_option maxHeartbeats 4000000 in
theorem does_else (rv : Value) (x : OD) (w : World) (h0 : x.k ≠ 0) (h1 : x.k ≠ 1) (h2 : x.k ≠ 2) (h3 : x.k ≠ 3) :
    Calls Try.prog 18 #[rv, .agg (cOD x).toArray] w fun e w'' => e = .returned (.agg (told DD.zero (.slice none 0 0) 0 false 0).toArray) ∧ turned w w'' [] := by
  obtain ⟨k, ⟨s, o, ba, bn, bc⟩, un, n⟩ := x
  simp only at h0 h1 h2 h3
  simp only [cOD]
  have d0 : (k == 0) = false := beq_eq_false_iff_ne.2 h0
  have d1 : (k == 1) = false := beq_eq_false_iff_ne.2 h1
  have d2 : (k == 2) = false := beq_eq_false_iff_ne.2 h2
  have d3 : (k == 3) = false := beq_eq_false_iff_ne.2 h3
  have t3 := turned_alloc (turned_alloc (turned_alloc (turned_refl w []) (.cells #[.int .i64 k, .int .u16 s, .bool o, .slice ba bn bc, .int .i64 un, .int .i64 n] 51)) (.cells #[.int .u32 0, .int .u16 0, .int .u16 0, .bool false, .bool false, .bool false, .slice none 0 0, .int .i64 0, .bool false, .int .i64 0] 48)) (.cells #[.int .u32 0, .int .u16 0, .int .u16 0, .bool false, .bool false, .bool false, .slice none 0 0, .int .i64 0, .bool false, .int .i64 0] 48)
  have s1 : (w.alloc (.cells #[.int .i64 k, .int .u16 s, .bool o, .slice ba bn bc, .int .i64 un, .int .i64 n] 51)).heap.size = w.heap.size + 1 := by simp
  have o4 := (obj.new (w.alloc (.cells #[.int .i64 k, .int .u16 s, .bool o, .slice ba bn bc, .int .i64 un, .int .i64 n] 51)) 48 [.int .u32 0, .int .u16 0, .int .u16 0, .bool false, .bool false, .bool false, .slice none 0 0, .int .i64 0, .bool false, .int .i64 0]).alloc (.cells #[.int .u32 0, .int .u16 0, .int .u16 0, .bool false, .bool false, .bool false, .slice none 0 0, .int .i64 0, .bool false, .int .i64 0] 48)
  rw [s1] at o4
  have T3 := Lib.hid t3
  have O4 := Lib.hid o4
  clear t3 o4 s1 h0 h1 h2 h3
  go_enter Try.func18, Try.ntmps18
  go_wp2_with fail
  (try simp only [Exit.inBlock, Exit.then])
  refine bodyPost_ret (results_cell_row rfl _ _ (w.heap.size + 1) 48 #[.int .u32 0, .int .u16 0, .int .u16 0, .bool false, .bool false, .bool false, .slice none 0 0, .int .i64 0, .bool false, .int .i64 0] (0, 0) _ rfl O4.out Try.underlying48 rfl (by kernel_rfl)) rfl ⟨rfl, T3.out⟩
end Go.Proofs.Ytibnjakiagcopaa
