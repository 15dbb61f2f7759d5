/- frag.Cut: a message in pieces. Conditions: its bytes lie in memory; at most 4000000. -/
import Derived.Test.YtcfpgeceenkheaaFragMade
import Derived.Deep.RegionHeld3
namespace Go.Proofs.Ytcfpgeceenkheaa
open Go.RowKit Go.Shelf Go.Deep
set_option linter.unusedVariables false
set_option linter.unusedSimpArgs false
attribute [local go_sem] Oper.semAt_some

theorem infoPD : (Try.prog.info? 38).map (fun i => (i.zero, i.size, i.bytes)) = some (some (.agg #[.int .u32 0, .int .u16 0, .int .u16 0, .bool false, .bool false, .bool false, .slice none 0 0]), 7, 40) := by kernel_rfl

set_option maxRecDepth 100000 in
set_option maxHeartbeats 4000000 in
theorem fcut_good (s : Int) (o : Bool) (ssn : Int) (a : Option Addr) (cap : Nat) (B : List Int) (most q : Nat) (w : World)  (hv : LiesB w (.slice a B.length cap) B) (h0 : 1 ≤ B.length) (h1 : B.length ≤ 1048576) (hcap : B.length ≤ cap) (hcap2 : cap ≤ 9223372036854775807) (hm : 1 ≤ most) (hm2 : most ≤ 9223372036854775807) (hq1 : B.length ≤ q * most) (hq2 : ∀ k, k < q → k * most < B.length) (hq : q ≤ 1048576) :
    Calls Try.prog 13 #[.agg #[.int .u16 s, .bool o, .slice a B.length cap], .int .u16 ssn, .int .i64 (most : Int)] w fun e w' => ∃ v X, e = .returned (.tuple #[v, .int .i64 0]) ∧ Made w.heap.size w' v X ((List.range q).map (bit B most)) ∧ shapedL s (bif o then ssn else 0) (!o) X ∧ X.length = q ∧ turned w w' [] := by
  obtain ⟨b, off, rfl, hb, _⟩ := hv.cell 0 (by omega)
  refine (callsIn_wide (n := 3)).1 ?_
  refine callsIn_of_wp_marks Try.func13 rfl trivial ?_ rfl
  simp only [Try.ntmps13, List.size_toArray, List.length_cons, List.length_nil, Nat.reduceAdd, Nat.reduceSub, Array.replicate_succ, Array.replicate_zero, List.push_toArray, List.append_toArray, List.nil_append, List.cons_append]
  have e1 : ¬ (most : Int) < 1 := by omega
  have e2 : ¬ B = [] := by intro e; rw [e] at h0; simp at h0
  have e3 : ¬ (B.length : Int) > 1048576 := by omega
  cases o
  all_goals gi_wp2_with (fail)
  all_goals refine ⟨trivial, (callsIn_wide.2 (chunk_any (some ⟨b, off, none⟩) B.length cap most hm _)).mono ?_⟩
  all_goals rintro e w' ⟨rfl, rfl⟩
  all_goals gi_wp2
  · have hB0 : turned w (((((w.alloc (.cells #[.int .u16 s, .bool false, .slice (some ⟨b, off, none⟩) B.length cap] 25)).alloc (.cells #[.int .u16 0] 22)).alloc (.cells #[.slice none 0 0] 29)).alloc (.cells #[.slice (some ⟨b, off, none⟩) B.length cap] 23)).alloc (.cells #[.int .i64 (most : Int)] 3)) [] := turned_alloc (turned_alloc (turned_alloc (turned_alloc (turned_alloc (turned_refl w []) _) _) _) _) _
    have o1 : obj (((((w.alloc (.cells #[.int .u16 s, .bool false, .slice (some ⟨b, off, none⟩) B.length cap] 25)).alloc (.cells #[.int .u16 0] 22)).alloc (.cells #[.slice none 0 0] 29)).alloc (.cells #[.slice (some ⟨b, off, none⟩) B.length cap] 23)).alloc (.cells #[.int .i64 (most : Int)] 3)) w.heap.size 25 [.int .u16 s, .bool false, .slice (some ⟨b, off, none⟩) B.length cap] := ((((obj.new w 25 [.int .u16 s, .bool false, .slice (some ⟨b, off, none⟩) B.length cap]).alloc _).alloc _).alloc _).alloc _
    have o2 : obj (((((w.alloc (.cells #[.int .u16 s, .bool false, .slice (some ⟨b, off, none⟩) B.length cap] 25)).alloc (.cells #[.int .u16 0] 22)).alloc (.cells #[.slice none 0 0] 29)).alloc (.cells #[.slice (some ⟨b, off, none⟩) B.length cap] 23)).alloc (.cells #[.int .i64 (most : Int)] 3)) (w.heap.size + 1) 22 [.int .u16 0] := by
      have := obj.new (w.alloc (.cells #[.int .u16 s, .bool false, .slice (some ⟨b, off, none⟩) B.length cap] 25)) 22 [.int .u16 0]
      rw [World.size_alloc] at this
      exact ((this.alloc _).alloc _).alloc _
    have o3 : obj (((((w.alloc (.cells #[.int .u16 s, .bool false, .slice (some ⟨b, off, none⟩) B.length cap] 25)).alloc (.cells #[.int .u16 0] 22)).alloc (.cells #[.slice none 0 0] 29)).alloc (.cells #[.slice (some ⟨b, off, none⟩) B.length cap] 23)).alloc (.cells #[.int .i64 (most : Int)] 3)) (w.heap.size + 1 + 1) 29 [.slice none 0 0] := by
      have := obj.new ((w.alloc (.cells #[.int .u16 s, .bool false, .slice (some ⟨b, off, none⟩) B.length cap] 25)).alloc (.cells #[.int .u16 0] 22)) 29 [.slice none 0 0]
      rw [World.size_alloc, World.size_alloc] at this
      exact (this.alloc _).alloc _
    have o4 : obj (((((w.alloc (.cells #[.int .u16 s, .bool false, .slice (some ⟨b, off, none⟩) B.length cap] 25)).alloc (.cells #[.int .u16 0] 22)).alloc (.cells #[.slice none 0 0] 29)).alloc (.cells #[.slice (some ⟨b, off, none⟩) B.length cap] 23)).alloc (.cells #[.int .i64 (most : Int)] 3)) (w.heap.size + 1 + 1 + 1) 23 [.slice (some ⟨b, off, none⟩) B.length cap] := by
      have := obj.new (((w.alloc (.cells #[.int .u16 s, .bool false, .slice (some ⟨b, off, none⟩) B.length cap] 25)).alloc (.cells #[.int .u16 0] 22)).alloc (.cells #[.slice none 0 0] 29)) 23 [.slice (some ⟨b, off, none⟩) B.length cap]
      rw [World.size_alloc, World.size_alloc, World.size_alloc] at this
      exact this.alloc _
    have o5 : obj (((((w.alloc (.cells #[.int .u16 s, .bool false, .slice (some ⟨b, off, none⟩) B.length cap] 25)).alloc (.cells #[.int .u16 0] 22)).alloc (.cells #[.slice none 0 0] 29)).alloc (.cells #[.slice (some ⟨b, off, none⟩) B.length cap] 23)).alloc (.cells #[.int .i64 (most : Int)] 3)) (w.heap.size + 1 + 1 + 1 + 1) 3 [.int .i64 (most : Int)] := by
      have := obj.new ((((w.alloc (.cells #[.int .u16 s, .bool false, .slice (some ⟨b, off, none⟩) B.length cap] 25)).alloc (.cells #[.int .u16 0] 22)).alloc (.cells #[.slice none 0 0] 29)).alloc (.cells #[.slice (some ⟨b, off, none⟩) B.length cap] 23)) 3 [.int .i64 (most : Int)]
      rw [World.size_alloc, World.size_alloc, World.size_alloc, World.size_alloc] at this
      exact this
    generalize hwb : (((((w.alloc (.cells #[.int .u16 s, .bool false, .slice (some ⟨b, off, none⟩) B.length cap] 25)).alloc (.cells #[.int .u16 0] 22)).alloc (.cells #[.slice none 0 0] 29)).alloc (.cells #[.slice (some ⟨b, off, none⟩) B.length cap] 23)).alloc (.cells #[.int .i64 (most : Int)] 3)) = wb at hB0 o1 o2 o3 o4 o5 ⊢
    have hsz : w.heap.size + 1 + 1 + 1 + 1 < wb.heap.size := o5.lt
    clear hwb
    refine wpIn_rangeFunc_ownG rfl (by omega) (gf := 28) (lb := #[.pointer (some ⟨w.heap.size + 1 + 1 + 1, 0, none⟩), .pointer (some ⟨w.heap.size + 1 + 1 + 1 + 1, 0, none⟩)]) rfl trivial (enters_of Try.func28 (by kernel_rfl) rfl)
      (chunk_stops 2 (by omega) (w.heap.size + 1 + 1 + 1) (w.heap.size + 1 + 1) wb.heap.size b off B.length cap most q (by omega) hcap hcap2 hm hm2 (by have := hB0.2.2.2.1; omega) hq1 hq2 wb (Nat.le_refl _) (by omega) (by omega) (by omega) (o4.cell 0 rfl) (o5.cell 0 rfl)) Beside.trans (beside_put (Nat.le_refl _)) (Below.refl _ _) (fun _ => rfl)
      (CutI w wb.heap.size B most s 0 false (.slice (some ⟨b, off, none⟩) B.length cap)) (fun _ _ _ => False) (cutI_own (by omega)) (fun _ _ _ _ _ hs _ _ => hs)
      ⟨⟨_, [], Made.nil _ _, fun i hi => (by cases hi), rfl, o3⟩, o1, o2, hB0, Nat.le_refl _⟩ ?a1false ?assign ?body ?done ?stop
    case assign =>
      intro l x W K hK
      gi_wp2
      exact hK
    case body =>
      rintro l pre x W ⟨⟨rv, X, h1, h2, h3, h4⟩, h5, h6, h7, hWb⟩ hlt
      obtain ⟨ra, rc, rfl, _⟩ := row_form h1.1
      have hlv : LiesB W (pieceV b off B.length most x) (bit B most x) := bit_lies (hv.none_ h7) (by omega)
      have hbl2 : (bit B most x).length ≤ B.length := by rw [bit_len]; unfold pieceLen; omega
      have H3 := Lib.hid h3
      clear h3
      obtain ⟨i0, hi0, hz0, hz1, hz2⟩ := info_parts infoPD
      have hnz : w.heap.size ≤ W.heap.size := h7.2.2.2.1
      gi_wp2_with (fail)
      have hS0 : CutS w s 0 false (.slice (some ⟨b, off, none⟩) B.length cap) (.slice ra X.length rc) W.drew := ⟨h5.cell 0 rfl, h5.cell 1 rfl, h6.cell 0 rfl, h4.cell 0 rfl, h4.free 0⟩
      refine region_round_till (CutS w s 0 false (.slice (some ⟨b, off, none⟩) B.length cap) (.slice ra X.length rc)) 15 (by kernel_rfl) (by kernel_rfl) (by rintro ⟨_, _, h⟩; exact h) hS0 (fun _ => ?_)
      have hM : Made wb.heap.size W.drew (.slice ra X.length rc) X (pre.map (bit B most)) := h1.none_ (turned_drew W [])
      have hlv' : LiesB W.drew (pieceV b off B.length most x) (bit B most x) := hlv.none_ (turned_drew W [])
      obtain ⟨wd, hwd⟩ : ∃ wd, W.drew = wd := ⟨_, rfl⟩
      have g4 : obj wd (w.heap.size + 1 + 1) 29 [.slice ra X.length rc] := hwd ▸ h4
      have g5 : obj wd w.heap.size 25 [.int .u16 s, .bool false, .slice (some ⟨b, off, none⟩) B.length cap] := hwd ▸ h5
      have g6 : obj wd (w.heap.size + 1) 22 [.int .u16 0] := hwd ▸ h6
      have gT : turned W wd [] := hwd ▸ turned_drew W []
      rw [hwd] at hS0 hM hlv' ⊢
      refine till_take (i := 0) (oi := { dst := some 32, op := Op.load 29 (Operand.tmp 6), type := 29, pos := "frag.go:21", after := #[], guard := none }) (v := ?_) rfl (by kernel_rfl) (by kernel_rfl) (by kernel_rfl) (by kernel_rfl) (fun _ _ _ h => h) (Or.inl ⟨by rfl, ?_⟩) (by assumption) ?_
      rotate_left
      · intro wz hSw
        obtain ⟨z0, z1, z2, z3, z4⟩ := hSw
        go_simp
        (try with_reducible rfl)
      simp only [Act.put, List.setIfInBounds_toArray, List.set_cons_zero, List.set_cons_succ]
      refine till_take (i := 1) (oi := { dst := some 33, op := Op.fieldAddr 25 (Operand.tmp 3) 0, type := 0, pos := "frag.go:21", after := #[], guard := none }) (v := ?_) rfl (by kernel_rfl) (by kernel_rfl) (by kernel_rfl) (by kernel_rfl) (fun _ _ _ h => h) (Or.inl ⟨by rfl, ?_⟩) (by assumption) ?_
      rotate_left
      · intro wz hSw
        obtain ⟨z0, z1, z2, z3, z4⟩ := hSw
        go_simp
        (try with_reducible rfl)
      simp only [Act.put, List.setIfInBounds_toArray, List.set_cons_zero, List.set_cons_succ]
      refine till_take (i := 2) (oi := { dst := some 34, op := Op.load 22 (Operand.tmp 33), type := 22, pos := "frag.go:21", after := #[{ on := 1, ground := Ground.data }], guard := none }) (v := ?_) rfl (by kernel_rfl) (by kernel_rfl) (by kernel_rfl) (by kernel_rfl) (fun _ _ _ h => h) (Or.inl ⟨by rfl, ?_⟩) (by assumption) ?_
      rotate_left
      · intro wz hSw
        obtain ⟨z0, z1, z2, z3, z4⟩ := hSw
        go_simp
        (try with_reducible rfl)
      simp only [Act.put, List.setIfInBounds_toArray, List.set_cons_zero, List.set_cons_succ]
      refine till_take (i := 3) (oi := { dst := some 35, op := Op.load 22 (Operand.tmp 4), type := 22, pos := "frag.go:21", after := #[], guard := none }) (v := ?_) rfl (by kernel_rfl) (by kernel_rfl) (by kernel_rfl) (by kernel_rfl) (fun _ _ _ h => h) (Or.inl ⟨by rfl, ?_⟩) (by assumption) ?_
      rotate_left
      · intro wz hSw
        obtain ⟨z0, z1, z2, z3, z4⟩ := hSw
        go_simp
        (try with_reducible rfl)
      simp only [Act.put, List.setIfInBounds_toArray, List.set_cons_zero, List.set_cons_succ]
      refine till_take (i := 4) (oi := { dst := some 36, op := Op.fieldAddr 25 (Operand.tmp 3) 1, type := 0, pos := "frag.go:21", after := #[], guard := none }) (v := ?_) rfl (by kernel_rfl) (by kernel_rfl) (by kernel_rfl) (by kernel_rfl) (fun _ _ _ h => h) (Or.inl ⟨by rfl, ?_⟩) (by assumption) ?_
      rotate_left
      · intro wz hSw
        obtain ⟨z0, z1, z2, z3, z4⟩ := hSw
        go_simp
        (try with_reducible rfl)
      simp only [Act.put, List.setIfInBounds_toArray, List.set_cons_zero, List.set_cons_succ]
      refine till_take (i := 5) (oi := { dst := some 37, op := Op.load 4 (Operand.tmp 36), type := 4, pos := "frag.go:21", after := #[{ on := 4, ground := Ground.data }], guard := none }) (v := ?_) rfl (by kernel_rfl) (by kernel_rfl) (by kernel_rfl) (by kernel_rfl) (fun _ _ _ h => h) (Or.inl ⟨by rfl, ?_⟩) (by assumption) ?_
      rotate_left
      · intro wz hSw
        obtain ⟨z0, z1, z2, z3, z4⟩ := hSw
        go_simp
        (try with_reducible rfl)
      simp only [Act.put, List.setIfInBounds_toArray, List.set_cons_zero, List.set_cons_succ]
      refine till_take (i := 6) (oi := { dst := some 38, op := Op.unOp Go.UnOp.not 4 (Operand.tmp 37), type := 4, pos := "frag.go:21", after := #[{ on := 5, ground := Ground.data }], guard := none }) (v := ?_) rfl (by kernel_rfl) (by kernel_rfl) (by kernel_rfl) (by kernel_rfl) (fun _ _ _ h => h) (Or.inl ⟨by rfl, ?_⟩) (by assumption) ?_
      rotate_left
      · intro wz hSw
        obtain ⟨z0, z1, z2, z3, z4⟩ := hSw
        go_simp
        (try with_reducible rfl)
      simp only [Act.put, List.setIfInBounds_toArray, List.set_cons_zero, List.set_cons_succ]
      refine till_take (i := 7) (oi := { dst := some 39, op := Op.load 29 (Operand.tmp 6), type := 29, pos := "frag.go:21", after := #[], guard := none }) (v := ?_) rfl (by kernel_rfl) (by kernel_rfl) (by kernel_rfl) (by kernel_rfl) (fun _ _ _ h => h) (Or.inl ⟨by rfl, ?_⟩) (by assumption) ?_
      rotate_left
      · intro wz hSw
        obtain ⟨z0, z1, z2, z3, z4⟩ := hSw
        go_simp
        (try with_reducible rfl)
      simp only [Act.put, List.setIfInBounds_toArray, List.set_cons_zero, List.set_cons_succ]
      refine till_take (i := 8) (oi := { dst := some 40, op := Op.call { callee := Go.Callee.builtin Go.Builtin.len, args := #[Operand.tmp 39], argTypes := #[29] }, type := 3, pos := "frag.go:21", after := #[{ on := 7, ground := Ground.data }], guard := none }) (v := ?_) rfl (by kernel_rfl) (by kernel_rfl) (by kernel_rfl) (by kernel_rfl) (fun _ _ _ h => h) (Or.inl ⟨by rfl, ?_⟩) (by assumption) ?_
      rotate_left
      · intro wz hSw
        obtain ⟨z0, z1, z2, z3, z4⟩ := hSw
        go_simp
        (try with_reducible rfl)
      simp only [Act.put, List.setIfInBounds_toArray, List.set_cons_zero, List.set_cons_succ]
      refine till_take (i := 9) (oi := { dst := some 41, op := Op.binOp Go.BinOp.eql 3 (Operand.tmp 40) (Operand.const (Go.Value.int Go.IntKind.i64 0)) 3, type := 4, pos := "frag.go:21", after := #[{ on := 8, ground := Ground.data }], guard := none }) (v := ?_) rfl (by kernel_rfl) (by kernel_rfl) (by kernel_rfl) (by kernel_rfl) (fun _ _ _ h => h) (Or.inl ⟨by rfl, ?_⟩) (by assumption) ?_
      rotate_left
      · intro wz hSw
        obtain ⟨z0, z1, z2, z3, z4⟩ := hSw
        go_simp
        (try with_reducible rfl)
      simp only [Act.put, List.setIfInBounds_toArray, List.set_cons_zero, List.set_cons_succ]
      refine till_take (i := 10) (oi := { dst := some 42, op := Op.move (Operand.tmp 8), type := 23, pos := "frag.go:21", after := #[], guard := none }) (v := ?_) rfl (by kernel_rfl) (by kernel_rfl) (by kernel_rfl) (by kernel_rfl) (fun _ _ _ h => h) (Or.inl ⟨by rfl, ?_⟩) (by assumption) ?_
      rotate_left
      · intro wz hSw
        obtain ⟨z0, z1, z2, z3, z4⟩ := hSw
        go_simp
        (try with_reducible rfl)
      simp only [Act.put, List.setIfInBounds_toArray, List.set_cons_zero, List.set_cons_succ]
      refine till_one (i := 11) (o := { dst := some 43, op := Op.call { callee := Go.Callee.value (Operand.func 25), args := #[Operand.tmp 42], argTypes := #[23] }, type := 23, pos := "frag.go:21", after := #[{ on := 10, ground := Ground.data }], guard := none }) (by kernel_rfl) rfl (fun K hK => ?_)
      have HK := Lib.hid hK
      clear hK
      go_simp
      refine (bcloneF _ (bit B most x) _ hlv' (by omega)).mono ?_
      rintro e w1 ⟨ca, cc, rfl, hrow, tw1⟩
      have k4 := g4.past tw1 (by simp)
      have k5 := g5.past tw1 (by simp)
      have k6 := g6.past tw1 (by simp)
      have hS1 : CutS w s 0 false (.slice (some ⟨b, off, none⟩) B.length cap) (.slice ra X.length rc) w1 := ⟨k5.cell 0 rfl, k5.cell 1 rfl, k6.cell 0 rfl, k4.cell 0 rfl, k4.free 0⟩
      refine HK.out _ _ (fun _ => hS1) ?_
      clear HK K
      (try simp only [Act.put, List.setIfInBounds_toArray, List.set_cons_zero, List.set_cons_succ])
      refine till_take (i := 12) (oi := { dst := some 44, op := Op.build 38 #[(1, Operand.tmp 34), (2, Operand.tmp 35), (3, Operand.tmp 38), (4, Operand.tmp 41), (6, Operand.tmp 43)], type := 38, pos := "frag.go:21", after := #[{ on := 2, ground := Ground.data }, { on := 3, ground := Ground.data }, { on := 6, ground := Ground.data }, { on := 9, ground := Ground.data }, { on := 11, ground := Ground.data }], guard := none }) (v := ?_) rfl (by kernel_rfl) (by kernel_rfl) (by kernel_rfl) (by kernel_rfl) (fun _ _ _ h => h) (Or.inl ⟨by rfl, ?_⟩) (by assumption) ?_
      rotate_left
      · intro wz hSw
        obtain ⟨z0, z1, z2, z3, z4⟩ := hSw
        go_simp
        (try with_reducible rfl)
      simp only [Act.put, List.setIfInBounds_toArray, List.set_cons_zero, List.set_cons_succ]
      have tw2 : turned w1 (w1.alloc (.cells (cPD ⟨0, s, 0, !false, decide (X.length = 0), false, ca, (bit B most x).length, cc⟩).toArray 38)) [] := turned_alloc (turned_refl w1 []) _
      have hy : Lies (w1.alloc (.cells (cPD ⟨0, s, 0, !false, decide (X.length = 0), false, ca, (bit B most x).length, cc⟩).toArray 38)) 7 (.slice (some ⟨w1.heap.size, 0, none⟩) 1 1) 1 (cPD ⟨0, s, 0, !false, decide (X.length = 0), false, ca, (bit B most x).length, cc⟩) := Lies.row (World.ownsRow_lit w1 (cPD ⟨0, s, 0, !false, decide (X.length = 0), false, ca, (bit B most x).length, cc⟩).toArray 1 (Nat.le_refl _) (by decide) rfl)
      refine till_one (i := 13) (o := { dst := some 45, op := Op.buildSlice 29 1 #[(0, Operand.tmp 44)], type := 29, pos := "frag.go:21", after := #[{ on := 12, ground := Ground.data }], guard := none }) (by kernel_rfl) rfl (fun K hK => ?_)
      have HK := Lib.hid hK
      have HY := Lib.hid hy
      have T2 := Lib.hid tw2
      clear hK hy tw2
      go_simp
      have eL : ((X.length : Int) == 0) = decide (X.length = 0) := by rw [Bool.eq_iff_iff, beq_iff_eq, decide_eq_true_eq]; omega
      rw [eL]
      have hy := HY.out
      have tw2 := T2.out
      simp only [cPD, Bool.not_false, Bool.not_true] at hy tw2
      generalize hw2 : w1.alloc _ = w2 at hy tw2 ⊢
      clear hw2 HY T2
      have l4 := k4.past tw2 (by simp)
      have l5 := k5.past tw2 (by simp)
      have l6 := k6.past tw2 (by simp)
      have hS2 : CutS w s 0 false (.slice (some ⟨b, off, none⟩) B.length cap) (.slice ra X.length rc) w2 := ⟨l5.cell 0 rfl, l5.cell 1 rfl, l6.cell 0 rfl, l4.cell 0 rfl, l4.free 0⟩
      refine HK.out _ _ (fun _ => hS2) ?_
      clear HK K
      (try simp only [Act.put, List.setIfInBounds_toArray, List.set_cons_zero, List.set_cons_succ])
      have hM2 := (hM.none_ tw1).none_ tw2
      have hXq : X.length < q := by rw [H3.out]; exact hlt
      refine till_one (i := 14) (o := { dst := some 46, op := Op.call { callee := Go.Callee.builtin Go.Builtin.append, args := #[Operand.tmp 32, Operand.tmp 45], argTypes := #[29, 29] }, type := 29, pos := "frag.go:21", after := #[{ on := 0, ground := Ground.data }, { on := 13, ground := Ground.data }, { on := 11, ground := Ground.chain }], guard := none }) (by kernel_rfl) rfl (fun K hK => ?_)
      refine step_append_lies' w2 rfl (.tmp 32) (.tmp 45) 29 rfl wb.heap.size 38 i0 _ 7 40 Try.underlying29 hi0 hz0 hz1 hz2 rfl (by decide) (.slice ra X.length rc) X.length (flat cPD X) rfl hM2.1 _ 1 (cPD ⟨0, s, 0, !false, decide (X.length = 0), false, ca, (bit B most x).length, cc⟩) rfl hy (cPD_one _) (by unfold maxLen; omega) (by omega) (by have := gT.2.2.2.1; have := tw1.2.2.2.1; have := tw2.2.2.2.1; have := hWb; omega) ?_
      intro v' w3 ho hg hl
      clear hl
      obtain ⟨va, vc, rfl, _⟩ := row_form ho
      have m4 := l4.kept hg (fun e => row_ne hM2.1 l4 (by decide) e.symm)
      have m5 := l5.kept hg (fun e => row_ne hM2.1 l5 (by decide) e.symm)
      have m6 := l6.kept hg (fun e => row_ne hM2.1 l6 (by decide) e.symm)
      have hS3 : CutS w s 0 false (.slice (some ⟨b, off, none⟩) B.length cap) (.slice ra X.length rc) w3 := ⟨m5.cell 0 rfl, m5.cell 1 rfl, m6.cell 0 rfl, m4.cell 0 rfl, m4.free 0⟩
      refine hK _ _ (fun _ => hS3) ?_
      clear hK K
      (try simp only [Act.put, List.setIfInBounds_toArray, List.set_cons_zero, List.set_cons_succ])
      have f4c := m4.cell 0 (v := .slice ra X.length rc) rfl
      have f4f := m4.free 0
      refine till_one (i := 15) (o := { dst := none, op := Op.store 29 (Operand.tmp 6) (Operand.tmp 46), type := 0, pos := "frag.go:21", after := #[{ on := 14, ground := Ground.data }, { on := 14, ground := Ground.chain }, { on := 0, ground := Ground.phase }, { on := 1, ground := Ground.phase }, { on := 2, ground := Ground.phase }, { on := 3, ground := Ground.phase }, { on := 4, ground := Ground.phase }, { on := 5, ground := Ground.phase }, { on := 6, ground := Ground.phase }, { on := 7, ground := Ground.phase }, { on := 8, ground := Ground.phase }, { on := 9, ground := Ground.phase }, { on := 10, ground := Ground.phase }, { on := 11, ground := Ground.phase }, { on := 12, ground := Ground.phase }, { on := 13, ground := Ground.phase }, { on := 14, ground := Ground.phase }], guard := none }) (by kernel_rfl) rfl (fun K hK => ?_)
      have HK := Lib.hid hK
      clear hK
      go_simp
      refine HK.out _ _ (fun h => absurd rfl h) ?_
      clear HK K
      (try simp only [Act.put, List.setIfInBounds_toArray, List.set_cons_zero, List.set_cons_succ])
      refine till_done (by kernel_rfl) ?_ _
      have o' := flat_app (c := cPD) X [⟨0, s, 0, !false, decide (X.length = 0), false, ca, (bit B most x).length, cc⟩]
      rw [flat_single] at o'
      rw [← o'] at ho
      have hMs := hM.snoc (c := w.heap.size + 1 + 1) (x := ⟨0, s, 0, !false, decide (X.length = 0), false, ca, (bit B most x).length, cc⟩) (B := bit B most x) (by have := gT.2.2.2.1; omega) tw1 hrow tw2 hg ho m4 (by decide) (by decide) (.slice va (X.length + 1) vc)
      have tA : turned W w2 [] := turned_trans (turned_trans gT tw1) tw2
      refine ⟨((keeps_turned tA).trans (keeps_row hM2.1 hg)).trans ((KeepsOthers.setCell _ _ _).from _), ((beside_turned hWb tA).trans (beside_row (by have := tA.2.2.2.1; omega) hM2.1 hg)).trans (beside_set _ _), ⟨_, _, ?_, h2.snoc ca (bit B most x).length cc, ?_, m4.set 0 _⟩, m5.setOther (by show w.heap.size ≠ w.heap.size + 1 + 1; omega) _, m6.setOther (by show w.heap.size + 1 ≠ w.heap.size + 1 + 1; omega) _, ?_, ?_⟩
      · rw [List.map_append]; exact hMs
      · simp [H3.out]
      · exact turned_setNew (turned_new (turned_trans h7 tA) hg (fun k e => by have := (row_lt hM2.1 k e).1; have := hB0.2.2.2.1; omega)) (by omega) _
      · have := tA.2.2.2.1; have := hg.size; have := (grownBy_setCell' w3 (w.heap.size + 1 + 1) (.slice va (X.length + 1) vc)).size; omega
    case done =>
      rintro D ys W hD rfl ⟨⟨rv, X, h1, h2, h3, h4⟩, h5, h6, h7, hWb⟩ hK
      obtain ⟨ra, rc, rfl, hr1, hr2, hr3⟩ := row_form h1.1
      have hXq : X.length = q := by rw [h3, List.length_range]
      have hq0 : 0 < q := by
        rcases Nat.eq_zero_or_pos q with e | e
        · subst e; omega
        · exact e
      obtain ⟨k, hk⟩ : ∃ k, X.length = k + 1 := ⟨q - 1, by omega⟩
      obtain ⟨g, rfl⟩ := hr3 (by omega)
      have hrow := h1.1
      have hkl : k < X.length := by omega
      have cw := hrow.cellAt (k * 7 + 5) (by omega)
      have e0 := flat_at cPD_len X k hkl 5 (by omega)
      rw [e0] at cw
      have cw' : W.cell? ⟨g, k * 7 + 5, none⟩ = some (.bool (X[k]'hkl).l) := cw
      have fw := hrow.frozenAt (k * 7 + 5)
      have c4 := h4.cell 0 (v := .slice (some ⟨g, 0, none⟩) X.length rc) rfl
      have f4 := h4.free 0
      have hne : g ≠ w.heap.size + 1 + 1 := fun e => row_ne hrow h4 (by decide) (by rw [e]; rfl)
      have hM := h1.turn rfl k hkl 5 (by omega) (.bool true) { X[k]'hkl with l := true } rfl rfl rfl rfl
      have hS := h2.last k hk
      have h44 := h4.setOther (a := ⟨g, k * 7 + 5, none⟩) (fun e => hne e.symm) (.bool true)
      have c44 := h44.cell 0 (v := .slice (some ⟨g, 0, none⟩) X.length rc) rfl
      have f44 := h44.free 0
      have hge := (row_lt hrow g rfl).1
      have tz := turned_setNew (b := g) (i := k * 7 + 5) h7 (by have := hB0.2.2.2.1; omega) (.bool true)
      have gd : g ≠ D := by
        rintro rfl
        rcases hrow.2 with ⟨e, _⟩ | ⟨g1, cap1, cur, e, _, hgb, _⟩
        · cases e
        · cases e
          rw [hgb] at hK
          cases hK
      have nd : w.heap.size + 1 + 1 ≠ D := by omega
      have hL : X.length = (X.set k { X[k]'hkl with l := true }).length := by simp
      have HM := Lib.hid hM
      have HS := Lib.hid hS
      have TZ := Lib.hid tz
      have HL := Lib.hid hL
      have C44 := Lib.hid c44
      have F44 := Lib.hid f44
      have e5 : (k : Int) < ((k + 1 : Nat) : Int) := by omega
      have e6 : (0 : Int) ≤ (k : Int) := by omega
      clear hM hS tz hL h2 h3 hr1 hr2 hr3 hB0 o1 o2 o3 o4 o5 e0 cw c44 f44
      rw [hk] at c4
      gi_wp2
      have hKd : ((W.setCell ⟨g, k * 7 + 5, none⟩ (.bool true)).setCell ⟨w.heap.size + 1 + 1, 0, none⟩ (.slice (some ⟨g, 0, none⟩) (k + 1) rc)).heap[D]? = some (.deferred (some [])) := by
        rw [Below.heap_setCell _ _ _ D (fun e => nd e.symm), Below.heap_setCell _ _ _ D (fun e => gd e.symm)]
        exact hK
      refine ⟨by simp, .inl ⟨_, _, rfl, run_takeDeferred hKd, ?_⟩⟩
      have cz : (((W.setCell ⟨g, k * 7 + 5, none⟩ (.bool true)).setCell ⟨w.heap.size + 1 + 1, 0, none⟩ (.slice (some ⟨g, 0, none⟩) (k + 1) rc)).putObj D (.deferred none)).cell? ⟨w.heap.size + 1 + 1, 0, none⟩ = some (.slice (some ⟨g, 0, none⟩) (k + 1) rc) := by
        have o9 := h44.set 0 (.slice (some ⟨g, 0, none⟩) (k + 1) rc)
        exact (obj.kept o9 (grownBy_putObj' _ D _) (fun e => nd (by cases e; rfl))).cell 0 rfl
      have hZ := (((HM.out.setBox h44 (by decide) (by decide) (.slice (some ⟨g, 0, none⟩) (k + 1) rc)).put (.deferred none) hKd rfl).base (by omega : w.heap.size ≤ wb.heap.size))
      rw [← hk]
      rw [← hk] at hZ cz
      refine ⟨.tuple #[.slice (some ⟨g, 0, none⟩) X.length rc, .int .i64 0], by simp [results, Try.results13, go_sem, cz], _, rfl, _, hZ, HS.out, by simp [hXq], ?_⟩
      exact turned_new (turned_setNew TZ.out (by omega) _) (grownBy_putObj' _ D _) (fun j e => by cases e; omega)
    case stop =>
      rintro D c pre W _ _ h _
      exact h.elim
  · have hB0 : turned w (((((w.alloc (.cells #[.int .u16 s, .bool true, .slice (some ⟨b, off, none⟩) B.length cap] 25)).alloc (.cells #[.int .u16 ssn] 22)).alloc (.cells #[.slice none 0 0] 29)).alloc (.cells #[.slice (some ⟨b, off, none⟩) B.length cap] 23)).alloc (.cells #[.int .i64 (most : Int)] 3)) [] := turned_alloc (turned_alloc (turned_alloc (turned_alloc (turned_alloc (turned_refl w []) _) _) _) _) _
    have o1 : obj (((((w.alloc (.cells #[.int .u16 s, .bool true, .slice (some ⟨b, off, none⟩) B.length cap] 25)).alloc (.cells #[.int .u16 ssn] 22)).alloc (.cells #[.slice none 0 0] 29)).alloc (.cells #[.slice (some ⟨b, off, none⟩) B.length cap] 23)).alloc (.cells #[.int .i64 (most : Int)] 3)) w.heap.size 25 [.int .u16 s, .bool true, .slice (some ⟨b, off, none⟩) B.length cap] := ((((obj.new w 25 [.int .u16 s, .bool true, .slice (some ⟨b, off, none⟩) B.length cap]).alloc _).alloc _).alloc _).alloc _
    have o2 : obj (((((w.alloc (.cells #[.int .u16 s, .bool true, .slice (some ⟨b, off, none⟩) B.length cap] 25)).alloc (.cells #[.int .u16 ssn] 22)).alloc (.cells #[.slice none 0 0] 29)).alloc (.cells #[.slice (some ⟨b, off, none⟩) B.length cap] 23)).alloc (.cells #[.int .i64 (most : Int)] 3)) (w.heap.size + 1) 22 [.int .u16 ssn] := by
      have := obj.new (w.alloc (.cells #[.int .u16 s, .bool true, .slice (some ⟨b, off, none⟩) B.length cap] 25)) 22 [.int .u16 ssn]
      rw [World.size_alloc] at this
      exact ((this.alloc _).alloc _).alloc _
    have o3 : obj (((((w.alloc (.cells #[.int .u16 s, .bool true, .slice (some ⟨b, off, none⟩) B.length cap] 25)).alloc (.cells #[.int .u16 ssn] 22)).alloc (.cells #[.slice none 0 0] 29)).alloc (.cells #[.slice (some ⟨b, off, none⟩) B.length cap] 23)).alloc (.cells #[.int .i64 (most : Int)] 3)) (w.heap.size + 1 + 1) 29 [.slice none 0 0] := by
      have := obj.new ((w.alloc (.cells #[.int .u16 s, .bool true, .slice (some ⟨b, off, none⟩) B.length cap] 25)).alloc (.cells #[.int .u16 ssn] 22)) 29 [.slice none 0 0]
      rw [World.size_alloc, World.size_alloc] at this
      exact (this.alloc _).alloc _
    have o4 : obj (((((w.alloc (.cells #[.int .u16 s, .bool true, .slice (some ⟨b, off, none⟩) B.length cap] 25)).alloc (.cells #[.int .u16 ssn] 22)).alloc (.cells #[.slice none 0 0] 29)).alloc (.cells #[.slice (some ⟨b, off, none⟩) B.length cap] 23)).alloc (.cells #[.int .i64 (most : Int)] 3)) (w.heap.size + 1 + 1 + 1) 23 [.slice (some ⟨b, off, none⟩) B.length cap] := by
      have := obj.new (((w.alloc (.cells #[.int .u16 s, .bool true, .slice (some ⟨b, off, none⟩) B.length cap] 25)).alloc (.cells #[.int .u16 ssn] 22)).alloc (.cells #[.slice none 0 0] 29)) 23 [.slice (some ⟨b, off, none⟩) B.length cap]
      rw [World.size_alloc, World.size_alloc, World.size_alloc] at this
      exact this.alloc _
    have o5 : obj (((((w.alloc (.cells #[.int .u16 s, .bool true, .slice (some ⟨b, off, none⟩) B.length cap] 25)).alloc (.cells #[.int .u16 ssn] 22)).alloc (.cells #[.slice none 0 0] 29)).alloc (.cells #[.slice (some ⟨b, off, none⟩) B.length cap] 23)).alloc (.cells #[.int .i64 (most : Int)] 3)) (w.heap.size + 1 + 1 + 1 + 1) 3 [.int .i64 (most : Int)] := by
      have := obj.new ((((w.alloc (.cells #[.int .u16 s, .bool true, .slice (some ⟨b, off, none⟩) B.length cap] 25)).alloc (.cells #[.int .u16 ssn] 22)).alloc (.cells #[.slice none 0 0] 29)).alloc (.cells #[.slice (some ⟨b, off, none⟩) B.length cap] 23)) 3 [.int .i64 (most : Int)]
      rw [World.size_alloc, World.size_alloc, World.size_alloc, World.size_alloc] at this
      exact this
    generalize hwb : (((((w.alloc (.cells #[.int .u16 s, .bool true, .slice (some ⟨b, off, none⟩) B.length cap] 25)).alloc (.cells #[.int .u16 ssn] 22)).alloc (.cells #[.slice none 0 0] 29)).alloc (.cells #[.slice (some ⟨b, off, none⟩) B.length cap] 23)).alloc (.cells #[.int .i64 (most : Int)] 3)) = wb at hB0 o1 o2 o3 o4 o5 ⊢
    have hsz : w.heap.size + 1 + 1 + 1 + 1 < wb.heap.size := o5.lt
    clear hwb
    refine wpIn_rangeFunc_ownG rfl (by omega) (gf := 28) (lb := #[.pointer (some ⟨w.heap.size + 1 + 1 + 1, 0, none⟩), .pointer (some ⟨w.heap.size + 1 + 1 + 1 + 1, 0, none⟩)]) rfl trivial (enters_of Try.func28 (by kernel_rfl) rfl)
      (chunk_stops 2 (by omega) (w.heap.size + 1 + 1 + 1) (w.heap.size + 1 + 1) wb.heap.size b off B.length cap most q (by omega) hcap hcap2 hm hm2 (by have := hB0.2.2.2.1; omega) hq1 hq2 wb (Nat.le_refl _) (by omega) (by omega) (by omega) (o4.cell 0 rfl) (o5.cell 0 rfl)) Beside.trans (beside_put (Nat.le_refl _)) (Below.refl _ _) (fun _ => rfl)
      (CutI w wb.heap.size B most s ssn true (.slice (some ⟨b, off, none⟩) B.length cap)) (fun _ _ _ => False) (cutI_own (by omega)) (fun _ _ _ _ _ hs _ _ => hs)
      ⟨⟨_, [], Made.nil _ _, fun i hi => (by cases hi), rfl, o3⟩, o1, o2, hB0, Nat.le_refl _⟩ ?a1true ?assign ?body ?done ?stop
    case assign =>
      intro l x W K hK
      gi_wp2
      exact hK
    case body =>
      rintro l pre x W ⟨⟨rv, X, h1, h2, h3, h4⟩, h5, h6, h7, hWb⟩ hlt
      obtain ⟨ra, rc, rfl, _⟩ := row_form h1.1
      have hlv : LiesB W (pieceV b off B.length most x) (bit B most x) := bit_lies (hv.none_ h7) (by omega)
      have hbl2 : (bit B most x).length ≤ B.length := by rw [bit_len]; unfold pieceLen; omega
      have H3 := Lib.hid h3
      clear h3
      obtain ⟨i0, hi0, hz0, hz1, hz2⟩ := info_parts infoPD
      have hnz : w.heap.size ≤ W.heap.size := h7.2.2.2.1
      gi_wp2_with (fail)
      have hS0 : CutS w s ssn true (.slice (some ⟨b, off, none⟩) B.length cap) (.slice ra X.length rc) W.drew := ⟨h5.cell 0 rfl, h5.cell 1 rfl, h6.cell 0 rfl, h4.cell 0 rfl, h4.free 0⟩
      refine region_round_till (CutS w s ssn true (.slice (some ⟨b, off, none⟩) B.length cap) (.slice ra X.length rc)) 15 (by kernel_rfl) (by kernel_rfl) (by rintro ⟨_, _, h⟩; exact h) hS0 (fun _ => ?_)
      have hM : Made wb.heap.size W.drew (.slice ra X.length rc) X (pre.map (bit B most)) := h1.none_ (turned_drew W [])
      have hlv' : LiesB W.drew (pieceV b off B.length most x) (bit B most x) := hlv.none_ (turned_drew W [])
      obtain ⟨wd, hwd⟩ : ∃ wd, W.drew = wd := ⟨_, rfl⟩
      have g4 : obj wd (w.heap.size + 1 + 1) 29 [.slice ra X.length rc] := hwd ▸ h4
      have g5 : obj wd w.heap.size 25 [.int .u16 s, .bool true, .slice (some ⟨b, off, none⟩) B.length cap] := hwd ▸ h5
      have g6 : obj wd (w.heap.size + 1) 22 [.int .u16 ssn] := hwd ▸ h6
      have gT : turned W wd [] := hwd ▸ turned_drew W []
      rw [hwd] at hS0 hM hlv' ⊢
      refine till_take (i := 0) (oi := { dst := some 32, op := Op.load 29 (Operand.tmp 6), type := 29, pos := "frag.go:21", after := #[], guard := none }) (v := ?_) rfl (by kernel_rfl) (by kernel_rfl) (by kernel_rfl) (by kernel_rfl) (fun _ _ _ h => h) (Or.inl ⟨by rfl, ?_⟩) (by assumption) ?_
      rotate_left
      · intro wz hSw
        obtain ⟨z0, z1, z2, z3, z4⟩ := hSw
        go_simp
        (try with_reducible rfl)
      simp only [Act.put, List.setIfInBounds_toArray, List.set_cons_zero, List.set_cons_succ]
      refine till_take (i := 1) (oi := { dst := some 33, op := Op.fieldAddr 25 (Operand.tmp 3) 0, type := 0, pos := "frag.go:21", after := #[], guard := none }) (v := ?_) rfl (by kernel_rfl) (by kernel_rfl) (by kernel_rfl) (by kernel_rfl) (fun _ _ _ h => h) (Or.inl ⟨by rfl, ?_⟩) (by assumption) ?_
      rotate_left
      · intro wz hSw
        obtain ⟨z0, z1, z2, z3, z4⟩ := hSw
        go_simp
        (try with_reducible rfl)
      simp only [Act.put, List.setIfInBounds_toArray, List.set_cons_zero, List.set_cons_succ]
      refine till_take (i := 2) (oi := { dst := some 34, op := Op.load 22 (Operand.tmp 33), type := 22, pos := "frag.go:21", after := #[{ on := 1, ground := Ground.data }], guard := none }) (v := ?_) rfl (by kernel_rfl) (by kernel_rfl) (by kernel_rfl) (by kernel_rfl) (fun _ _ _ h => h) (Or.inl ⟨by rfl, ?_⟩) (by assumption) ?_
      rotate_left
      · intro wz hSw
        obtain ⟨z0, z1, z2, z3, z4⟩ := hSw
        go_simp
        (try with_reducible rfl)
      simp only [Act.put, List.setIfInBounds_toArray, List.set_cons_zero, List.set_cons_succ]
      refine till_take (i := 3) (oi := { dst := some 35, op := Op.load 22 (Operand.tmp 4), type := 22, pos := "frag.go:21", after := #[], guard := none }) (v := ?_) rfl (by kernel_rfl) (by kernel_rfl) (by kernel_rfl) (by kernel_rfl) (fun _ _ _ h => h) (Or.inl ⟨by rfl, ?_⟩) (by assumption) ?_
      rotate_left
      · intro wz hSw
        obtain ⟨z0, z1, z2, z3, z4⟩ := hSw
        go_simp
        (try with_reducible rfl)
      simp only [Act.put, List.setIfInBounds_toArray, List.set_cons_zero, List.set_cons_succ]
      refine till_take (i := 4) (oi := { dst := some 36, op := Op.fieldAddr 25 (Operand.tmp 3) 1, type := 0, pos := "frag.go:21", after := #[], guard := none }) (v := ?_) rfl (by kernel_rfl) (by kernel_rfl) (by kernel_rfl) (by kernel_rfl) (fun _ _ _ h => h) (Or.inl ⟨by rfl, ?_⟩) (by assumption) ?_
      rotate_left
      · intro wz hSw
        obtain ⟨z0, z1, z2, z3, z4⟩ := hSw
        go_simp
        (try with_reducible rfl)
      simp only [Act.put, List.setIfInBounds_toArray, List.set_cons_zero, List.set_cons_succ]
      refine till_take (i := 5) (oi := { dst := some 37, op := Op.load 4 (Operand.tmp 36), type := 4, pos := "frag.go:21", after := #[{ on := 4, ground := Ground.data }], guard := none }) (v := ?_) rfl (by kernel_rfl) (by kernel_rfl) (by kernel_rfl) (by kernel_rfl) (fun _ _ _ h => h) (Or.inl ⟨by rfl, ?_⟩) (by assumption) ?_
      rotate_left
      · intro wz hSw
        obtain ⟨z0, z1, z2, z3, z4⟩ := hSw
        go_simp
        (try with_reducible rfl)
      simp only [Act.put, List.setIfInBounds_toArray, List.set_cons_zero, List.set_cons_succ]
      refine till_take (i := 6) (oi := { dst := some 38, op := Op.unOp Go.UnOp.not 4 (Operand.tmp 37), type := 4, pos := "frag.go:21", after := #[{ on := 5, ground := Ground.data }], guard := none }) (v := ?_) rfl (by kernel_rfl) (by kernel_rfl) (by kernel_rfl) (by kernel_rfl) (fun _ _ _ h => h) (Or.inl ⟨by rfl, ?_⟩) (by assumption) ?_
      rotate_left
      · intro wz hSw
        obtain ⟨z0, z1, z2, z3, z4⟩ := hSw
        go_simp
        (try with_reducible rfl)
      simp only [Act.put, List.setIfInBounds_toArray, List.set_cons_zero, List.set_cons_succ]
      refine till_take (i := 7) (oi := { dst := some 39, op := Op.load 29 (Operand.tmp 6), type := 29, pos := "frag.go:21", after := #[], guard := none }) (v := ?_) rfl (by kernel_rfl) (by kernel_rfl) (by kernel_rfl) (by kernel_rfl) (fun _ _ _ h => h) (Or.inl ⟨by rfl, ?_⟩) (by assumption) ?_
      rotate_left
      · intro wz hSw
        obtain ⟨z0, z1, z2, z3, z4⟩ := hSw
        go_simp
        (try with_reducible rfl)
      simp only [Act.put, List.setIfInBounds_toArray, List.set_cons_zero, List.set_cons_succ]
      refine till_take (i := 8) (oi := { dst := some 40, op := Op.call { callee := Go.Callee.builtin Go.Builtin.len, args := #[Operand.tmp 39], argTypes := #[29] }, type := 3, pos := "frag.go:21", after := #[{ on := 7, ground := Ground.data }], guard := none }) (v := ?_) rfl (by kernel_rfl) (by kernel_rfl) (by kernel_rfl) (by kernel_rfl) (fun _ _ _ h => h) (Or.inl ⟨by rfl, ?_⟩) (by assumption) ?_
      rotate_left
      · intro wz hSw
        obtain ⟨z0, z1, z2, z3, z4⟩ := hSw
        go_simp
        (try with_reducible rfl)
      simp only [Act.put, List.setIfInBounds_toArray, List.set_cons_zero, List.set_cons_succ]
      refine till_take (i := 9) (oi := { dst := some 41, op := Op.binOp Go.BinOp.eql 3 (Operand.tmp 40) (Operand.const (Go.Value.int Go.IntKind.i64 0)) 3, type := 4, pos := "frag.go:21", after := #[{ on := 8, ground := Ground.data }], guard := none }) (v := ?_) rfl (by kernel_rfl) (by kernel_rfl) (by kernel_rfl) (by kernel_rfl) (fun _ _ _ h => h) (Or.inl ⟨by rfl, ?_⟩) (by assumption) ?_
      rotate_left
      · intro wz hSw
        obtain ⟨z0, z1, z2, z3, z4⟩ := hSw
        go_simp
        (try with_reducible rfl)
      simp only [Act.put, List.setIfInBounds_toArray, List.set_cons_zero, List.set_cons_succ]
      refine till_take (i := 10) (oi := { dst := some 42, op := Op.move (Operand.tmp 8), type := 23, pos := "frag.go:21", after := #[], guard := none }) (v := ?_) rfl (by kernel_rfl) (by kernel_rfl) (by kernel_rfl) (by kernel_rfl) (fun _ _ _ h => h) (Or.inl ⟨by rfl, ?_⟩) (by assumption) ?_
      rotate_left
      · intro wz hSw
        obtain ⟨z0, z1, z2, z3, z4⟩ := hSw
        go_simp
        (try with_reducible rfl)
      simp only [Act.put, List.setIfInBounds_toArray, List.set_cons_zero, List.set_cons_succ]
      refine till_one (i := 11) (o := { dst := some 43, op := Op.call { callee := Go.Callee.value (Operand.func 25), args := #[Operand.tmp 42], argTypes := #[23] }, type := 23, pos := "frag.go:21", after := #[{ on := 10, ground := Ground.data }], guard := none }) (by kernel_rfl) rfl (fun K hK => ?_)
      have HK := Lib.hid hK
      clear hK
      go_simp
      refine (bcloneF _ (bit B most x) _ hlv' (by omega)).mono ?_
      rintro e w1 ⟨ca, cc, rfl, hrow, tw1⟩
      have k4 := g4.past tw1 (by simp)
      have k5 := g5.past tw1 (by simp)
      have k6 := g6.past tw1 (by simp)
      have hS1 : CutS w s ssn true (.slice (some ⟨b, off, none⟩) B.length cap) (.slice ra X.length rc) w1 := ⟨k5.cell 0 rfl, k5.cell 1 rfl, k6.cell 0 rfl, k4.cell 0 rfl, k4.free 0⟩
      refine HK.out _ _ (fun _ => hS1) ?_
      clear HK K
      (try simp only [Act.put, List.setIfInBounds_toArray, List.set_cons_zero, List.set_cons_succ])
      refine till_take (i := 12) (oi := { dst := some 44, op := Op.build 38 #[(1, Operand.tmp 34), (2, Operand.tmp 35), (3, Operand.tmp 38), (4, Operand.tmp 41), (6, Operand.tmp 43)], type := 38, pos := "frag.go:21", after := #[{ on := 2, ground := Ground.data }, { on := 3, ground := Ground.data }, { on := 6, ground := Ground.data }, { on := 9, ground := Ground.data }, { on := 11, ground := Ground.data }], guard := none }) (v := ?_) rfl (by kernel_rfl) (by kernel_rfl) (by kernel_rfl) (by kernel_rfl) (fun _ _ _ h => h) (Or.inl ⟨by rfl, ?_⟩) (by assumption) ?_
      rotate_left
      · intro wz hSw
        obtain ⟨z0, z1, z2, z3, z4⟩ := hSw
        go_simp
        (try with_reducible rfl)
      simp only [Act.put, List.setIfInBounds_toArray, List.set_cons_zero, List.set_cons_succ]
      have tw2 : turned w1 (w1.alloc (.cells (cPD ⟨0, s, ssn, !true, decide (X.length = 0), false, ca, (bit B most x).length, cc⟩).toArray 38)) [] := turned_alloc (turned_refl w1 []) _
      have hy : Lies (w1.alloc (.cells (cPD ⟨0, s, ssn, !true, decide (X.length = 0), false, ca, (bit B most x).length, cc⟩).toArray 38)) 7 (.slice (some ⟨w1.heap.size, 0, none⟩) 1 1) 1 (cPD ⟨0, s, ssn, !true, decide (X.length = 0), false, ca, (bit B most x).length, cc⟩) := Lies.row (World.ownsRow_lit w1 (cPD ⟨0, s, ssn, !true, decide (X.length = 0), false, ca, (bit B most x).length, cc⟩).toArray 1 (Nat.le_refl _) (by decide) rfl)
      refine till_one (i := 13) (o := { dst := some 45, op := Op.buildSlice 29 1 #[(0, Operand.tmp 44)], type := 29, pos := "frag.go:21", after := #[{ on := 12, ground := Ground.data }], guard := none }) (by kernel_rfl) rfl (fun K hK => ?_)
      have HK := Lib.hid hK
      have HY := Lib.hid hy
      have T2 := Lib.hid tw2
      clear hK hy tw2
      go_simp
      have eL : ((X.length : Int) == 0) = decide (X.length = 0) := by rw [Bool.eq_iff_iff, beq_iff_eq, decide_eq_true_eq]; omega
      rw [eL]
      have hy := HY.out
      have tw2 := T2.out
      simp only [cPD, Bool.not_false, Bool.not_true] at hy tw2
      generalize hw2 : w1.alloc _ = w2 at hy tw2 ⊢
      clear hw2 HY T2
      have l4 := k4.past tw2 (by simp)
      have l5 := k5.past tw2 (by simp)
      have l6 := k6.past tw2 (by simp)
      have hS2 : CutS w s ssn true (.slice (some ⟨b, off, none⟩) B.length cap) (.slice ra X.length rc) w2 := ⟨l5.cell 0 rfl, l5.cell 1 rfl, l6.cell 0 rfl, l4.cell 0 rfl, l4.free 0⟩
      refine HK.out _ _ (fun _ => hS2) ?_
      clear HK K
      (try simp only [Act.put, List.setIfInBounds_toArray, List.set_cons_zero, List.set_cons_succ])
      have hM2 := (hM.none_ tw1).none_ tw2
      have hXq : X.length < q := by rw [H3.out]; exact hlt
      refine till_one (i := 14) (o := { dst := some 46, op := Op.call { callee := Go.Callee.builtin Go.Builtin.append, args := #[Operand.tmp 32, Operand.tmp 45], argTypes := #[29, 29] }, type := 29, pos := "frag.go:21", after := #[{ on := 0, ground := Ground.data }, { on := 13, ground := Ground.data }, { on := 11, ground := Ground.chain }], guard := none }) (by kernel_rfl) rfl (fun K hK => ?_)
      refine step_append_lies' w2 rfl (.tmp 32) (.tmp 45) 29 rfl wb.heap.size 38 i0 _ 7 40 Try.underlying29 hi0 hz0 hz1 hz2 rfl (by decide) (.slice ra X.length rc) X.length (flat cPD X) rfl hM2.1 _ 1 (cPD ⟨0, s, ssn, !true, decide (X.length = 0), false, ca, (bit B most x).length, cc⟩) rfl hy (cPD_one _) (by unfold maxLen; omega) (by omega) (by have := gT.2.2.2.1; have := tw1.2.2.2.1; have := tw2.2.2.2.1; have := hWb; omega) ?_
      intro v' w3 ho hg hl
      clear hl
      obtain ⟨va, vc, rfl, _⟩ := row_form ho
      have m4 := l4.kept hg (fun e => row_ne hM2.1 l4 (by decide) e.symm)
      have m5 := l5.kept hg (fun e => row_ne hM2.1 l5 (by decide) e.symm)
      have m6 := l6.kept hg (fun e => row_ne hM2.1 l6 (by decide) e.symm)
      have hS3 : CutS w s ssn true (.slice (some ⟨b, off, none⟩) B.length cap) (.slice ra X.length rc) w3 := ⟨m5.cell 0 rfl, m5.cell 1 rfl, m6.cell 0 rfl, m4.cell 0 rfl, m4.free 0⟩
      refine hK _ _ (fun _ => hS3) ?_
      clear hK K
      (try simp only [Act.put, List.setIfInBounds_toArray, List.set_cons_zero, List.set_cons_succ])
      have f4c := m4.cell 0 (v := .slice ra X.length rc) rfl
      have f4f := m4.free 0
      refine till_one (i := 15) (o := { dst := none, op := Op.store 29 (Operand.tmp 6) (Operand.tmp 46), type := 0, pos := "frag.go:21", after := #[{ on := 14, ground := Ground.data }, { on := 14, ground := Ground.chain }, { on := 0, ground := Ground.phase }, { on := 1, ground := Ground.phase }, { on := 2, ground := Ground.phase }, { on := 3, ground := Ground.phase }, { on := 4, ground := Ground.phase }, { on := 5, ground := Ground.phase }, { on := 6, ground := Ground.phase }, { on := 7, ground := Ground.phase }, { on := 8, ground := Ground.phase }, { on := 9, ground := Ground.phase }, { on := 10, ground := Ground.phase }, { on := 11, ground := Ground.phase }, { on := 12, ground := Ground.phase }, { on := 13, ground := Ground.phase }, { on := 14, ground := Ground.phase }], guard := none }) (by kernel_rfl) rfl (fun K hK => ?_)
      have HK := Lib.hid hK
      clear hK
      go_simp
      refine HK.out _ _ (fun h => absurd rfl h) ?_
      clear HK K
      (try simp only [Act.put, List.setIfInBounds_toArray, List.set_cons_zero, List.set_cons_succ])
      refine till_done (by kernel_rfl) ?_ _
      have o' := flat_app (c := cPD) X [⟨0, s, ssn, !true, decide (X.length = 0), false, ca, (bit B most x).length, cc⟩]
      rw [flat_single] at o'
      rw [← o'] at ho
      have hMs := hM.snoc (c := w.heap.size + 1 + 1) (x := ⟨0, s, ssn, !true, decide (X.length = 0), false, ca, (bit B most x).length, cc⟩) (B := bit B most x) (by have := gT.2.2.2.1; omega) tw1 hrow tw2 hg ho m4 (by decide) (by decide) (.slice va (X.length + 1) vc)
      have tA : turned W w2 [] := turned_trans (turned_trans gT tw1) tw2
      refine ⟨((keeps_turned tA).trans (keeps_row hM2.1 hg)).trans ((KeepsOthers.setCell _ _ _).from _), ((beside_turned hWb tA).trans (beside_row (by have := tA.2.2.2.1; omega) hM2.1 hg)).trans (beside_set _ _), ⟨_, _, ?_, h2.snoc ca (bit B most x).length cc, ?_, m4.set 0 _⟩, m5.setOther (by show w.heap.size ≠ w.heap.size + 1 + 1; omega) _, m6.setOther (by show w.heap.size + 1 ≠ w.heap.size + 1 + 1; omega) _, ?_, ?_⟩
      · rw [List.map_append]; exact hMs
      · simp [H3.out]
      · exact turned_setNew (turned_new (turned_trans h7 tA) hg (fun k e => by have := (row_lt hM2.1 k e).1; have := hB0.2.2.2.1; omega)) (by omega) _
      · have := tA.2.2.2.1; have := hg.size; have := (grownBy_setCell' w3 (w.heap.size + 1 + 1) (.slice va (X.length + 1) vc)).size; omega
    case done =>
      rintro D ys W hD rfl ⟨⟨rv, X, h1, h2, h3, h4⟩, h5, h6, h7, hWb⟩ hK
      obtain ⟨ra, rc, rfl, hr1, hr2, hr3⟩ := row_form h1.1
      have hXq : X.length = q := by rw [h3, List.length_range]
      have hq0 : 0 < q := by
        rcases Nat.eq_zero_or_pos q with e | e
        · subst e; omega
        · exact e
      obtain ⟨k, hk⟩ : ∃ k, X.length = k + 1 := ⟨q - 1, by omega⟩
      obtain ⟨g, rfl⟩ := hr3 (by omega)
      have hrow := h1.1
      have hkl : k < X.length := by omega
      have cw := hrow.cellAt (k * 7 + 5) (by omega)
      have e0 := flat_at cPD_len X k hkl 5 (by omega)
      rw [e0] at cw
      have cw' : W.cell? ⟨g, k * 7 + 5, none⟩ = some (.bool (X[k]'hkl).l) := cw
      have fw := hrow.frozenAt (k * 7 + 5)
      have c4 := h4.cell 0 (v := .slice (some ⟨g, 0, none⟩) X.length rc) rfl
      have f4 := h4.free 0
      have hne : g ≠ w.heap.size + 1 + 1 := fun e => row_ne hrow h4 (by decide) (by rw [e]; rfl)
      have hM := h1.turn rfl k hkl 5 (by omega) (.bool true) { X[k]'hkl with l := true } rfl rfl rfl rfl
      have hS := h2.last k hk
      have h44 := h4.setOther (a := ⟨g, k * 7 + 5, none⟩) (fun e => hne e.symm) (.bool true)
      have c44 := h44.cell 0 (v := .slice (some ⟨g, 0, none⟩) X.length rc) rfl
      have f44 := h44.free 0
      have hge := (row_lt hrow g rfl).1
      have tz := turned_setNew (b := g) (i := k * 7 + 5) h7 (by have := hB0.2.2.2.1; omega) (.bool true)
      have gd : g ≠ D := by
        rintro rfl
        rcases hrow.2 with ⟨e, _⟩ | ⟨g1, cap1, cur, e, _, hgb, _⟩
        · cases e
        · cases e
          rw [hgb] at hK
          cases hK
      have nd : w.heap.size + 1 + 1 ≠ D := by omega
      have hL : X.length = (X.set k { X[k]'hkl with l := true }).length := by simp
      have HM := Lib.hid hM
      have HS := Lib.hid hS
      have TZ := Lib.hid tz
      have HL := Lib.hid hL
      have C44 := Lib.hid c44
      have F44 := Lib.hid f44
      have e5 : (k : Int) < ((k + 1 : Nat) : Int) := by omega
      have e6 : (0 : Int) ≤ (k : Int) := by omega
      clear hM hS tz hL h2 h3 hr1 hr2 hr3 hB0 o1 o2 o3 o4 o5 e0 cw c44 f44
      rw [hk] at c4
      gi_wp2
      have hKd : ((W.setCell ⟨g, k * 7 + 5, none⟩ (.bool true)).setCell ⟨w.heap.size + 1 + 1, 0, none⟩ (.slice (some ⟨g, 0, none⟩) (k + 1) rc)).heap[D]? = some (.deferred (some [])) := by
        rw [Below.heap_setCell _ _ _ D (fun e => nd e.symm), Below.heap_setCell _ _ _ D (fun e => gd e.symm)]
        exact hK
      refine ⟨by simp, .inl ⟨_, _, rfl, run_takeDeferred hKd, ?_⟩⟩
      have cz : (((W.setCell ⟨g, k * 7 + 5, none⟩ (.bool true)).setCell ⟨w.heap.size + 1 + 1, 0, none⟩ (.slice (some ⟨g, 0, none⟩) (k + 1) rc)).putObj D (.deferred none)).cell? ⟨w.heap.size + 1 + 1, 0, none⟩ = some (.slice (some ⟨g, 0, none⟩) (k + 1) rc) := by
        have o9 := h44.set 0 (.slice (some ⟨g, 0, none⟩) (k + 1) rc)
        exact (obj.kept o9 (grownBy_putObj' _ D _) (fun e => nd (by cases e; rfl))).cell 0 rfl
      have hZ := (((HM.out.setBox h44 (by decide) (by decide) (.slice (some ⟨g, 0, none⟩) (k + 1) rc)).put (.deferred none) hKd rfl).base (by omega : w.heap.size ≤ wb.heap.size))
      rw [← hk]
      rw [← hk] at hZ cz
      refine ⟨.tuple #[.slice (some ⟨g, 0, none⟩) X.length rc, .int .i64 0], by simp [results, Try.results13, go_sem, cz], _, rfl, _, hZ, HS.out, by simp [hXq], ?_⟩
      exact turned_new (turned_setNew TZ.out (by omega) _) (grownBy_putObj' _ D _) (fun j e => by cases e; omega)
    case stop =>
      rintro D c pre W _ _ h _
      exact h.elim
end Go.Proofs.Ytcfpgeceenkheaa
