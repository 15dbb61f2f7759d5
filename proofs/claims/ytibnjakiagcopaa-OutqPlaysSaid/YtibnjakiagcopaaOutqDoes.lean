/- does: what is done with a queue, at Put. Conditions: what Put answers. -/
import Derived.Test.YtibnjakiagcopaaOutqWorks2
import Derived.Test.YtibnjakiagcopaaOutqOpen
namespace Go.Proofs.Ytibnjakiagcopaa
open Go.RowKit Go.Deep
set_option linter.unusedVariables false
set_option linter.unusedSimpArgs false

/-- What 'does' answers. -/
def told (d : DD) (v : Value) (num : Int) (is : Bool) (e : Int) : List Value := [.int .u32 d.t, .int .u16 d.s, .int .u16 d.n, .bool d.u, .bool d.f, .bool d.l, v, .int .i64 num, .bool is, .int .i64 e]
/-- A row of bytes is being overwritten. -/
def Wiped (w : World) (base : Nat) (v : Value) (n : Nat) (wr : World) : Prop := ∃ Z : List Int, Z.length = n ∧ wr.ownsRow base 5 1 v n (flat cB Z) ∧ turned w wr v.ownBlock.toList
theorem Wiped.step {w wr : World} {base g n c i : Nat} (h : Wiped w base (.slice (some ⟨g, 0, none⟩) n c) n wr) (hi : i < n) : Wiped w base (.slice (some ⟨g, 0, none⟩) n c) n (wr.setCell ⟨g, i, none⟩ (.int .u8 85)) := by
  obtain ⟨Z, h1, h2, h3⟩ := h
  subst h1
  have hs := (h2.stored i (.int .u8 85)).1
  have e := flat_set cB_len Z i hi 0 (by omega) (.int .u8 85) 85 rfl
  rw [Nat.mul_one, Nat.add_zero] at e
  rw [e] at hs
  exact ⟨Z.set i 85, by simp, by simpa using hs, turned_set h3 (by simp [Value.ownBlock] <;> omega) _⟩
theorem Wiped.at_ {w wr : World} {base g n c i : Nat} (h : Wiped w base (.slice (some ⟨g, 0, none⟩) n c) n wr) (hi : i < n) : (∃ z, wr.cell? ⟨g, i, none⟩ = some (.int .u8 z)) ∧ wr.frozen? ⟨g, i, none⟩ = false := by
  obtain ⟨Z, h1, h2, h3⟩ := h
  subst h1
  have e := flat_at cB_len Z i hi 0 (by omega)
  rw [Nat.mul_one, Nat.add_zero] at e
  exact ⟨⟨_, (h2.cellAt i (by omega)).trans e⟩, h2.frozenAt i⟩
set_option maxRecDepth 100000 in
set_option maxHeartbeats 4000000 in
theorem does_put (rv : Value) (x : OD) (B : List Int) (w : World) (L : List Nat) (num E : Int) (Q : World → Prop) (hk : x.k = 0) (hB : LiesB w (.slice x.m.ba x.m.bn x.m.bc) B) (hl : B.length ≤ 140737488351232) (hL : ∀ k, k ∈ L → k < w.heap.size) (hBW : ∀ w', turned w w' L → LiesB w' (.slice x.m.ba x.m.bn x.m.bc) B)
    (HP : ∀ w1 v, turned w w1 [] → LiesB w1 v B → Calls Try.prog 10 #[rv, .agg #[.int .u16 x.m.s, .bool x.m.o, v], .int .i64 x.un] w1 fun e w' => e = .returned (.tuple #[.int .i64 num, .int .i64 E]) ∧ turned w1 w' L ∧ ∀ w'' M, turned w' w'' M → (∀ k, k ∈ M → w.heap.size ≤ k ∧ k < w1.heap.size) → Q w'') :
    Calls Try.prog 18 #[rv, .agg (cOD x).toArray] w fun e w'' => e = .returned (.agg (told DD.zero (.slice none 0 0) num true E).toArray) ∧ turned w w'' L ∧ Q w'' := by
  obtain ⟨k, ⟨s, o, ba, bn, bc⟩, un, n⟩ := x
  simp only at hk hB HP hBW
  subst hk
  have hbn := hB.len
  subst hbn
  obtain ⟨i0, hi0, hz0, hz1, hz2⟩ := info_parts infoB
  have hbc := hB.1.form
  have hby := hB.2
  simp only [cOD]
  have t5 := turned_alloc (turned_alloc (turned_alloc (turned_alloc (turned_alloc (turned_refl w []) (.cells #[.int .i64 0, .int .u16 s, .bool o, .slice ba B.length bc, .int .i64 un, .int .i64 n] 51)) (.cells #[.int .u32 0, .int .u16 0, .int .u16 0, .bool false, .bool false, .bool false, .slice none 0 0, .int .i64 0, .bool false, .int .i64 0] 48)) (.cells #[.int .u32 0, .int .u16 0, .int .u16 0, .bool false, .bool false, .bool false, .slice none 0 0, .int .i64 0, .bool false, .int .i64 0] 48)) (.cells #[.int .u16 s, .bool o, .slice ba B.length bc] 31)) (.cells #[] 5)
  have s1 : (w.alloc (.cells #[.int .i64 0, .int .u16 s, .bool o, .slice ba B.length bc, .int .i64 un, .int .i64 n] 51)).heap.size = w.heap.size + 1 := by simp
  have s2 : ((w.alloc (.cells #[.int .i64 0, .int .u16 s, .bool o, .slice ba B.length bc, .int .i64 un, .int .i64 n] 51)).alloc (.cells #[.int .u32 0, .int .u16 0, .int .u16 0, .bool false, .bool false, .bool false, .slice none 0 0, .int .i64 0, .bool false, .int .i64 0] 48)).heap.size = w.heap.size + 1 + 1 := by simp
  have s3 : (((w.alloc (.cells #[.int .i64 0, .int .u16 s, .bool o, .slice ba B.length bc, .int .i64 un, .int .i64 n] 51)).alloc (.cells #[.int .u32 0, .int .u16 0, .int .u16 0, .bool false, .bool false, .bool false, .slice none 0 0, .int .i64 0, .bool false, .int .i64 0] 48)).alloc (.cells #[.int .u32 0, .int .u16 0, .int .u16 0, .bool false, .bool false, .bool false, .slice none 0 0, .int .i64 0, .bool false, .int .i64 0] 48)).heap.size = w.heap.size + 1 + 1 + 1 := by simp
  have s4 : ((((w.alloc (.cells #[.int .i64 0, .int .u16 s, .bool o, .slice ba B.length bc, .int .i64 un, .int .i64 n] 51)).alloc (.cells #[.int .u32 0, .int .u16 0, .int .u16 0, .bool false, .bool false, .bool false, .slice none 0 0, .int .i64 0, .bool false, .int .i64 0] 48)).alloc (.cells #[.int .u32 0, .int .u16 0, .int .u16 0, .bool false, .bool false, .bool false, .slice none 0 0, .int .i64 0, .bool false, .int .i64 0] 48)).alloc (.cells #[.int .u16 s, .bool o, .slice ba B.length bc] 31)).heap.size = w.heap.size + 1 + 1 + 1 + 1 := by simp
  have o3 := ((((obj.new w 51 [.int .i64 0, .int .u16 s, .bool o, .slice ba B.length bc, .int .i64 un, .int .i64 n]).alloc (.cells #[.int .u32 0, .int .u16 0, .int .u16 0, .bool false, .bool false, .bool false, .slice none 0 0, .int .i64 0, .bool false, .int .i64 0] 48)).alloc (.cells #[.int .u32 0, .int .u16 0, .int .u16 0, .bool false, .bool false, .bool false, .slice none 0 0, .int .i64 0, .bool false, .int .i64 0] 48)).alloc (.cells #[.int .u16 s, .bool o, .slice ba B.length bc] 31)).alloc (.cells #[] 5)
  have o4 := (((obj.new (w.alloc (.cells #[.int .i64 0, .int .u16 s, .bool o, .slice ba B.length bc, .int .i64 un, .int .i64 n] 51)) 48 [.int .u32 0, .int .u16 0, .int .u16 0, .bool false, .bool false, .bool false, .slice none 0 0, .int .i64 0, .bool false, .int .i64 0]).alloc (.cells #[.int .u32 0, .int .u16 0, .int .u16 0, .bool false, .bool false, .bool false, .slice none 0 0, .int .i64 0, .bool false, .int .i64 0] 48)).alloc (.cells #[.int .u16 s, .bool o, .slice ba B.length bc] 31)).alloc (.cells #[] 5)
  have o5 := ((obj.new ((w.alloc (.cells #[.int .i64 0, .int .u16 s, .bool o, .slice ba B.length bc, .int .i64 un, .int .i64 n] 51)).alloc (.cells #[.int .u32 0, .int .u16 0, .int .u16 0, .bool false, .bool false, .bool false, .slice none 0 0, .int .i64 0, .bool false, .int .i64 0] 48)) 48 [.int .u32 0, .int .u16 0, .int .u16 0, .bool false, .bool false, .bool false, .slice none 0 0, .int .i64 0, .bool false, .int .i64 0]).alloc (.cells #[.int .u16 s, .bool o, .slice ba B.length bc] 31)).alloc (.cells #[] 5)
  have o6 := (obj.new (((w.alloc (.cells #[.int .i64 0, .int .u16 s, .bool o, .slice ba B.length bc, .int .i64 un, .int .i64 n] 51)).alloc (.cells #[.int .u32 0, .int .u16 0, .int .u16 0, .bool false, .bool false, .bool false, .slice none 0 0, .int .i64 0, .bool false, .int .i64 0] 48)).alloc (.cells #[.int .u32 0, .int .u16 0, .int .u16 0, .bool false, .bool false, .bool false, .slice none 0 0, .int .i64 0, .bool false, .int .i64 0] 48)) 31 [.int .u16 s, .bool o, .slice ba B.length bc]).alloc (.cells #[] 5)
  rw [s1] at o4
  rw [s2] at o5
  rw [s3] at o6
  have hown := World.ownsRow_lit (base := w.heap.size) (e := 5) (size := 1) ((((w.alloc (.cells #[.int .i64 0, .int .u16 s, .bool o, .slice ba B.length bc, .int .i64 un, .int .i64 n] 51)).alloc (.cells #[.int .u32 0, .int .u16 0, .int .u16 0, .bool false, .bool false, .bool false, .slice none 0 0, .int .i64 0, .bool false, .int .i64 0] 48)).alloc (.cells #[.int .u32 0, .int .u16 0, .int .u16 0, .bool false, .bool false, .bool false, .slice none 0 0, .int .i64 0, .bool false, .int .i64 0] 48)).alloc (.cells #[.int .u16 s, .bool o, .slice ba B.length bc] 31)) #[] 0 (by rw [s4]; omega) (by decide) rfl
  rw [s4] at hown
  have HB := Lib.hid hB
  have HH := Lib.hid HP
  have HBW := Lib.hid hBW
  have HL := Lib.hid hL
  have HBY := Lib.hid hby
  have T5 := Lib.hid t5
  have O3 := Lib.hid o3
  have O4 := Lib.hid o4
  have O5 := Lib.hid o5
  have O6 := Lib.hid o6
  have HW := Lib.hid hown
  clear hB hBW HP hL hby t5 o3 o4 o5 o6 hown s1 s2 s3 s4 hbc
  go_enter Try.func18, Try.ntmps18
  go_wp2_with (first | (at_builtin; go_loud (refine wpList_append_lies' _ rfl _ _ 29 rfl w.heap.size 5 i0 (.int .u8 0) 1 1 Try.underlying29 hi0 hz0 hz1 hz2 rfl (by decide) (.slice (some ⟨w.heap.size + 1 + 1 + 1 + 1, 0, none⟩) 0 0) 0 [] rfl HW.out (.slice ba B.length bc) B.length (flat cB B) rfl (HB.out.1.none_ T5.out) (flat_one cB_one B) (by unfold maxLen; omega) (by omega) (by have := T5.out.2.2.2.1; omega) ?_; intro v' wA ha hg hl'; rw [Nat.zero_add, List.nil_append] at ha; obtain ⟨ra, rc, rfl, _, _, hra⟩ := row_form ha; have p6 := O6.out.kept hg (by simp [Value.ownBlock] <;> omega); have p3 := O3.out.kept hg (by simp [Value.ownBlock] <;> omega); have x0 := p6.cell 0 rfl; have x1 := p6.cell 1 rfl; have x2 := p6.cell 2 rfl; have y2 := p6.free 2; have z4 := p3.cell 4 rfl; have HA := Lib.hid ha; have HG := Lib.hid hg; have P3 := Lib.hid p3; have P6 := Lib.hid p6; have P4 := Lib.hid (O4.out.kept hg (by simp [Value.ownBlock] <;> omega)); have P5 := Lib.hid (O5.out.kept hg (by simp [Value.ownBlock] <;> omega)); have HRA := Lib.hid hra; have TA := Lib.hid (turned_new T5.out hg (fun k e => by simp [Value.ownBlock] at e; omega)); clear ha hg hl' p3 p6 hra)) | fail)
  obtain ⟨w1, hw1⟩ : ∃ w1, wA.setCell ⟨w.heap.size + 1 + 1 + 1, 2, none⟩ (.slice ra B.length rc) = w1 := ⟨_, rfl⟩
  have ts : turned wA w1 [w.heap.size + 1 + 1 + 1] := hw1 ▸ turned_set (turned_refl _ _) (by simp) _
  have M6 := Lib.hid (show obj w1 (w.heap.size + 1 + 1 + 1) 31 [.int .u16 s, .bool o, .slice ra B.length rc] from hw1 ▸ P6.out.set 2 _)
  have M3 := Lib.hid (P3.out.past ts (by simp <;> omega))
  have M4 := Lib.hid (P4.out.past ts (by simp <;> omega))
  have M5 := Lib.hid (P5.out.past ts (by simp <;> omega))
  have RA := Lib.hid (row_past HA.out ts (fun q hq e => row_ne HA.out P6.out (by decide) (by rw [hq, List.mem_singleton.1 e])))
  have T1 := Lib.hid (turned_narrow (M := []) (turned_trans (turned_more TA.out (by simp)) ts) (fun k hk => .inr (by rw [List.mem_singleton.1 hk]; omega)))
  rw [hw1]
  clear hw1 ts x0 x1 x2 y2 z4 P3 P4 P5 P6 HA HG TA O3 O4 O5 O6 HW T5
  have LA := Lib.hid (show LiesB w1 (.slice ra B.length rc) B from ⟨Lies.row RA.out, HBY.out⟩)
  refine (HH.out w1 _ T1.out LA.out).mono ?_
  rintro e w2 ⟨rfl, t2, hQ⟩
  have hold : ∀ k, w.heap.size ≤ k → k ∉ L := fun k hk e => by have := HL.out k e; omega
  obtain ⟨w3, hw3⟩ : ∃ w3, (w2.setCell ⟨w.heap.size + 1 + 1, 7, none⟩ (.int .i64 num)).setCell ⟨w.heap.size + 1 + 1, 9, none⟩ (.int .i64 E) = w3 := ⟨_, rfl⟩
  have q5 := M5.out.past t2 (hold _ (by omega))
  have x7 := q5.cell 7 rfl
  have y7 := q5.free 7
  have x9 := q5.cell 9 rfl
  have y9 := q5.free 9
  have t3 : turned w2 w3 [w.heap.size + 1 + 1] := hw3 ▸ turned_set (turned_set (turned_refl _ _) (by simp) _) (by simp) _
  have M5' := Lib.hid (show obj w3 (w.heap.size + 1 + 1) 48 [.int .u32 0, .int .u16 0, .int .u16 0, .bool false, .bool false, .bool false, .slice none 0 0, .int .i64 num, .bool false, .int .i64 E] from hw3 ▸ (q5.set 7 _).set 9 _)
  have R2 := row_past RA.out t2 (fun q hq => hold q (row_lt0 RA.out q hq).1)
  have R3 := Lib.hid (row_past R2 t3 (fun q hq e => row_ne R2 q5 (by decide) (by rw [hq, List.mem_singleton.1 e])))
  have q3 := M3.out.past t2 (hold _ (by omega))
  have q4 := M4.out.past t2 (hold _ (by omega))
  have q6 := M6.out.past t2 (hold _ (by omega))
  have N3 := Lib.hid (q3.past t3 (by simp <;> omega))
  have N4 := Lib.hid (q4.past t3 (by simp <;> omega))
  have N6 := Lib.hid (q6.past t3 (by simp <;> omega))
  have hlt : w.heap.size + 1 + 1 + 1 < w1.heap.size := M6.out.lt
  have T13 := Lib.hid (turned_trans (turned_more t2 (fun k hk => List.mem_append_left [w.heap.size + 1 + 1] hk)) (turned_more t3 (fun k hk => List.mem_append_right L hk)))
  have T2 := Lib.hid t2
  have T3 := Lib.hid t3
  have HQ := Lib.hid hQ
  have LW := Lib.hid (show turned w w3 L from turned_narrow (turned_trans (turned_more T1.out (by simp)) T13.out) (fun k hk => by
    rcases List.mem_append.1 hk with h | h
    · exact .inl h
    · rw [List.mem_singleton.1 h]; exact .inr (by omega)))
  have c1 := conv_lies (⟨Lies.row R3.out, HBY.out⟩ : LiesB w3 (.slice ra B.length rc) B)
  have hBw := HBW.out w3 LW.out
  have c2 := conv_lies hBw
  have u2 := N6.out.cell 2 rfl
  have u3 := N3.out.cell 3 rfl
  have u8 := M5'.out.cell 8 rfl
  have y8 := M5'.out.free 8
  have sb : ((strOfNums B).toList == (strOfNums B).toList) = true := by simp
  rw [← hw3] at c1 c2 u2 u3 u8 y8
  clear hw3 q5 q3 q4 q6 R2 hBw t2 t3 hQ
  go_wp2_with fail
  obtain ⟨w4, hw4⟩ : ∃ w4, ((w2.setCell ⟨w.heap.size + 1 + 1, 7, none⟩ (.int .i64 num)).setCell ⟨w.heap.size + 1 + 1, 9, none⟩ (.int .i64 E)).setCell ⟨w.heap.size + 1 + 1, 8, none⟩ (.bool true) = w4 := ⟨_, rfl⟩
  have t4 : turned w2 w4 [w.heap.size + 1 + 1] := hw4 ▸ turned_set (turned_set (turned_set (turned_refl _ _) (by simp) _) (by simp) _) (by simp) _
  have q5 := M5.out.past T2.out (hold _ (by omega))
  have V5 := Lib.hid (show obj w4 (w.heap.size + 1 + 1) 48 [.int .u32 0, .int .u16 0, .int .u16 0, .bool false, .bool false, .bool false, .slice none 0 0, .int .i64 num, .bool true, .int .i64 E] from hw4 ▸ ((q5.set 7 _).set 9 _).set 8 _)
  have R2 := row_past RA.out T2.out (fun q hq => hold q (row_lt0 RA.out q hq).1)
  have R4 := row_past R2 t4 (fun q hq e => row_ne R2 q5 (by decide) (by rw [hq, List.mem_singleton.1 e]))
  have V4 := Lib.hid ((M4.out.past T2.out (hold _ (by omega))).past t4 (by simp <;> omega))
  have V6 := Lib.hid ((M6.out.past T2.out (hold _ (by omega))).past t4 (by simp <;> omega))
  have T4 := Lib.hid t4
  have W4' := Lib.hid (show Wiped w4 w.heap.size (.slice ra B.length rc) B.length w4 from ⟨B, rfl, R4, turned_refl _ _⟩)
  rw [hw4]
  clear hw4 t4 q5 R2 R4 c1 c2 u2 u3 u8 y8 x7 x9 y7 y9 sb
  have hrb : ∀ q, (Value.slice ra B.length rc).ownBlock = some q → w.heap.size ≤ q ∧ q < w1.heap.size := row_lt0 RA.out
  have HRB := Lib.hid hrb
  clear hrb
  go_loopw [7] (fun iv wr => ∃ i : Nat, i ≤ B.length ∧ iv = .int .i64 (i : Int) ∧ Wiped w4 w.heap.size (.slice ra B.length rc) B.length wr) (fun iv _ => B.length - (intOf iv).toNat)
  case atStart => exact ⟨0, Nat.zero_le _, rfl, W4'.out⟩
  case round =>
    obtain ⟨i, hi, rfl, hw⟩ := hrel
    have v6 := V6.out.past hw.choose_spec.2.2 (fun e => row_ne W4'.out.choose_spec.2.1 V6.out (by decide) (by simpa using e))
    have x2 := v6.cell 2 rfl
    have HWP := Lib.hid hw
    clear hw v6
    by_cases hlt : i < B.length
    · obtain ⟨gr, rfl⟩ := HRA.out (by omega)
      obtain ⟨⟨z, hz⟩, hf⟩ := HWP.out.at_ hlt
      go_wp2_with fail
      go_roundw
      case rel => exact ⟨i + 1, by omega, by go_num, HWP.out.step hlt⟩
      case measure => simp only [intOf]; omega
    · have hib : i = B.length := by omega
      subst hib
      have hnl : ¬ (B.length : Int) < (B.length : Int) := by omega
      have tw := HWP.out.choose_spec.2.2
      have v5 := V5.out.past tw (fun e => row_ne W4'.out.choose_spec.2.1 V5.out (by decide) (by simpa using e))
      have v4 := V4.out.past tw (fun e => row_ne W4'.out.choose_spec.2.1 V4.out (by decide) (by simpa using e))
      have z0 := v5.cell 0 rfl
      have z1 := v5.cell 1 rfl
      have z2 := v5.cell 2 rfl
      have z3 := v5.cell 3 rfl
      have z4 := v5.cell 4 rfl
      have z5 := v5.cell 5 rfl
      have z6 := v5.cell 6 rfl
      have z7 := v5.cell 7 rfl
      have z8 := v5.cell 8 rfl
      have z9 := v5.cell 9 rfl
      have Z4 := Lib.hid v4
      have TW := Lib.hid tw
      clear v4 v5 tw
      go_wp2_with (first | (refine wpList_store_row rfl _ _ _ rfl (w.heap.size + 1) #[.int .u32 0, .int .u16 0, .int .u16 0, .bool false, .bool false, .bool false, .slice none 0 0, .int .i64 num, .bool true, .int .i64 E] rfl rfl 48 _ Z4.out (by kernel_rfl) rfl (by rw [← Array.all_toList]; rfl) ?_; have ts := turned_setRow wr (w.heap.size + 1) #[.int .u32 0, .int .u16 0, .int .u16 0, .bool false, .bool false, .bool false, .slice none 0 0, .int .i64 num, .bool true, .int .i64 E]; have hD := setRow_heap wr (w.heap.size + 1) _ #[.int .u32 0, .int .u16 0, .int .u16 0, .bool false, .bool false, .bool false, .slice none 0 0, .int .i64 num, .bool true, .int .i64 E] _ _ Z4.out; generalize wr.setRow (w.heap.size + 1) #[.int .u32 0, .int .u16 0, .int .u16 0, .bool false, .bool false, .bool false, .slice none 0 0, .int .i64 num, .bool true, .int .i64 E] = wf at ts hD ⊢; have TS := Lib.hid ts; have HD := Lib.hid hD; clear ts hD) | fail)
      (try simp only [Exit.inBlock, Exit.then])
      refine bodyPost_ret (results_cell_row rfl _ _ (w.heap.size + 1) 48 #[.int .u32 0, .int .u16 0, .int .u16 0, .bool false, .bool false, .bool false, .slice none 0 0, .int .i64 num, .bool true, .int .i64 E] (0, 0) _ rfl HD.out Try.underlying48 rfl (by kernel_rfl)) rfl ?_
      have tf : turned w2 wf ((w.heap.size + 1 + 1) :: (w.heap.size + 1) :: (Value.slice ra B.length rc).ownBlock.toList) := turned_trans (turned_more T4.out (by simp)) (turned_trans (turned_more TW.out (by intro q hq; simp at hq ⊢; exact .inr (.inr hq))) (turned_more TS.out (by simp)))
      refine ⟨rfl, turned_narrow (turned_trans (turned_more (turned_trans (turned_more T1.out (by simp)) T2.out) (fun q hq => List.mem_append_left ((w.heap.size + 1 + 1) :: (w.heap.size + 1) :: (Value.slice ra B.length rc).ownBlock.toList) hq)) (turned_more tf (fun q hq => List.mem_append_right L hq))) (fun q hq => ?_), HQ.out wf _ tf (fun q hq => ?_)⟩
      · rcases List.mem_append.1 hq with h | h
        · exact .inl h
        · refine .inr ?_
          simp only [List.mem_cons, Option.mem_toList] at h
          rcases h with rfl | rfl | h
          · omega
          · omega
          · exact (HRB.out q h).1
      · simp only [List.mem_cons, Option.mem_toList] at hq
        rcases hq with rfl | rfl | h
        · exact ⟨by omega, by omega⟩
        · exact ⟨by omega, by omega⟩
        · exact HRB.out q h
end Go.Proofs.Ytibnjakiagcopaa
