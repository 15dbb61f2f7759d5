/- frag.Join: the message of pieces. Conditions: the pieces and their bytes lie in memory; at most 100000 pieces, 1048576 bytes. -/
import Derived.Test.YtcfpgeceenkheaaFragPlain
import Derived.Deep.RegionHeld3
import Derived.Deep.RegionLaw
namespace Go.Proofs.Ytcfpgeceenkheaa
open Go.RowKit Go.Deep
set_option linter.unusedVariables false
set_option linter.unusedSimpArgs false

/-- What the loop of Join keeps. -/
def JRel (w : World) (mb : Nat) (X : List PD) (Bs : List (List Int)) (x0 : PD) (i : Value) (wr : World) : Prop :=
  ∃ j : Nat, j ≤ X.length ∧ i = .int .i64 (j : Int) ∧ (∀ t (ht : t < X.length), t < j → fits X x0 t (X[t]'ht)) ∧
    (∃ T sa sc, T = (Bs.take j).flatten ∧ obj wr mb 25 [.int .u16 x0.s, .bool (!x0.u), .slice sa T.length sc] ∧ wr.ownsRow w.heap.size 5 1 (.slice sa T.length sc) T.length (flat cB T)) ∧
    obj wr w.heap.size 25 [.int .u16 0, .bool false, .slice none 0 0] ∧ turned w wr []
theorem take_flat {α : Type} (L : List (List α)) (j : Nat) (hj : j < L.length) : (L.take (j + 1)).flatten = (L.take j).flatten ++ L[j]'hj := by
  rw [List.take_succ_eq_append_getElem hj, List.flatten_append]
  simp
theorem take_flat_le {α : Type} (L : List (List α)) (j : Nat) : (L.take j).flatten.length ≤ L.flatten.length := by
  have : L.flatten = (L.take j).flatten ++ (L.drop j).flatten := by rw [← List.flatten_append, List.take_append_drop]
  rw [this, List.length_append]
  omega

theorem fits_bits {X : List PD} {x0 x : PD} {j : Nat} (h : fits X x0 j x) : x.f = ((j : Int) == 0) ∧ x.l = ((j : Int) == (X.length : Int) - 1) ∧ ((x.bn : Int) == 0) = false ∧ x.s = x0.s ∧ x.n = x0.n ∧ (x.u == !x0.u) = false := by
  refine ⟨?_, ?_, ?_, h.s, h.n, ?_⟩
  · rw [h.f, Bool.eq_iff_iff, beq_iff_eq, decide_eq_true_eq]; omega
  · rw [h.l, Bool.eq_iff_iff, beq_iff_eq, decide_eq_true_eq]; omega
  · have := h.b; rw [beq_eq_false_iff_ne]; omega
  · rw [h.u]; cases x0.u <;> rfl
theorem unfit_bits {X : List PD} {x0 x : PD} {j : Nat} (h : ¬ fits X x0 j x) : ¬ x.f = ((j : Int) == 0) ∨ (x.f = ((j : Int) == 0) ∧ (¬ x.l = ((j : Int) == (X.length : Int) - 1) ∨ (x.l = ((j : Int) == (X.length : Int) - 1) ∧
    (x.bn = 0 ∨ (((x.bn : Int) == 0) = false ∧ (¬ x.s = x0.s ∨ (x.s = x0.s ∧ (¬ x.n = x0.n ∨ (x.n = x0.n ∧ (x.u == !x0.u) = true))))))))) := by
  have e1 : ((j : Int) == 0) = decide (j = 0) := by rw [Bool.eq_iff_iff, beq_iff_eq, decide_eq_true_eq]; omega
  have e2 : ((j : Int) == (X.length : Int) - 1) = decide (j + 1 = X.length) := by rw [Bool.eq_iff_iff, beq_iff_eq, decide_eq_true_eq]; omega
  rw [e1, e2]
  by_cases p1 : x.f = decide (j = 0)
  · refine .inr ⟨p1, ?_⟩
    by_cases p2 : x.l = decide (j + 1 = X.length)
    · refine .inr ⟨p2, ?_⟩
      by_cases p3 : x.bn = 0
      · exact .inl p3
      · refine .inr ⟨by rw [beq_eq_false_iff_ne]; omega, ?_⟩
        by_cases p4 : x.s = x0.s
        · refine .inr ⟨p4, ?_⟩
          by_cases p5 : x.n = x0.n
          · refine .inr ⟨p5, ?_⟩
            have p6 : ¬ x.u = x0.u := fun e => h ⟨p1, p2, p3, p4, p5, e⟩
            revert p6
            cases x.u <;> cases x0.u <;> simp
          · exact .inl p5
        · exact .inl p4
    · exact .inl p2
  · exact .inl p1

theorem new_of {w w' : World} {t : TypeId} {cs : List Value} (h : w.alloc (.cells cs.toArray t) = w') : obj w' w.heap.size t cs := h ▸ obj.new w t cs
theorem old_of {w w' : World} {o : Obj} {b : Nat} {t : TypeId} {cs : List Value} (h : w.alloc o = w') (k : obj w b t cs) : obj w' b t cs := h ▸ k.alloc o
theorem turned_of {w w' : World} {o : Obj} (h : w.alloc o = w') : turned w w' [] := h ▸ turned_alloc (turned_refl w []) o
set_option maxRecDepth 100000 in
set_option maxHeartbeats 8000000 in
theorem fjoin (v : Value) (X : List PD) (Bs : List (List Int)) (w : World) (h : LiesF w v X Bs) (hX : X.length ≤ 100000) (hT : Bs.flatten.length ≤ 1048576) :
    Calls Try.prog 20 #[v] w (Joined w X Bs) := by
  obtain ⟨a, cap, rfl, hc1, hc2⟩ := h.1.1.form
  have H := Lib.hid h
  have HX := Lib.hid hX
  have HT := Lib.hid hT
  clear h hT
  by_cases h0 : X.length = 0
  · rw [h0]
    go_enter Try.func20, Try.ntmps20
    go_wp2
    exact bodyPost_ret (v := noMsg) (by simp [noMsg, results, Try.results20, go_sem]) rfl ⟨.inr ⟨fun ⟨h, _⟩ => absurd h (by omega), rfl⟩, turned_alloc (turned_refl w []) _⟩
  have hp : 0 < X.length := by omega
  have e00 : ¬ X = [] := by rintro rfl; exact h0 rfl
  obtain ⟨b, off, rfl, hb, z0, z1, z2, z3, z4, z5, z6⟩ := H.out.1.cells 0 hp
  obtain ⟨x0, hx0⟩ : ∃ x, X[0]'hp = x := ⟨_, rfl⟩
  rw [hx0] at z1 z2 z3
  clear z0 z4 z5 z6
  have hx9 : ((X.length : Int) == 0) = false := by rw [beq_eq_false_iff_ne]; omega
  rw [Nat.zero_mul, Nat.add_zero] at z1 z2 z3
  go_enter Try.func20, Try.ntmps20
  go_wp2
  go_region
  go_wp2
  have HX0 := Lib.hid hx0
  obtain ⟨i0, hi0, hz0, hz1, hz2⟩ := info_parts infoB
  have HZ1 := Lib.hid z1
  have HZ2 := Lib.hid z2
  have HZ3 := Lib.hid z3
  clear hx0 z1 z2 z3
  go_loopw [24] (fun i wr => JRel w (w.heap.size + 1) X Bs x0 i wr) (fun i _ => X.length - (intOf i).toNat)
  case atStart =>
    have ta : turned w ((w.alloc (.cells #[.int .u16 0, .bool false, .slice none 0 0] 25)).alloc (.cells #[.int .u16 x0.s, .bool (!x0.u), .slice none 0 0] 25)).drew [] := turned_drew' (turned_alloc (turned_alloc (turned_refl w []) _) _)
    have n1 := obj.new (w.alloc (.cells #[.int .u16 0, .bool false, .slice none 0 0] 25)) 25 [.int .u16 x0.s, .bool (!x0.u), .slice none 0 0]
    rw [World.size_alloc] at n1
    exact ⟨0, Nat.zero_le _, rfl, fun t ht h => absurd h (Nat.not_lt_zero t), ⟨[], none, 0, rfl, n1, World.ownsRow_nil _ _ _ _⟩, (obj.new w 25 [.int .u16 0, .bool false, .slice none 0 0]).alloc _, ta⟩
  case round =>
    obtain ⟨j, hj, rfl, hall, ⟨T, sa, sc, hT, om, ow⟩, o2, tw⟩ := hrel
    have HTT := Lib.hid hT
    clear hT
    have HALL := Lib.hid hall
    have TW := Lib.hid tw
    have OM := Lib.hid om
    have OW := Lib.hid ow
    have O2 := Lib.hid o2
    clear hall tw om ow o2
    by_cases hlt : j < X.length
    · obtain ⟨b', off', e, _, c0, c1, c2, c3, c4, c5, c6⟩ := (H.out.1.none_ TW.out).cells j hlt
      cases e
      obtain ⟨x, hx⟩ : ∃ x, X[j]'hlt = x := ⟨_, rfl⟩
      rw [hx] at c0 c1 c2 c3 c4 c5 c6
      have HXJ := Lib.hid hx
      clear hx
      have z1 := turned_cell TW.out HZ1.out (by simp)
      have z2 := turned_cell TW.out HZ2.out (by simp)
      have z3 := turned_cell TW.out HZ3.out (by simp)
      have m0 := OM.out.cell 0 rfl
      have m1 := OM.out.cell 1 rfl
      have m2 := OM.out.cell 2 rfl
      have mf := OM.out.free 2
      by_cases hk : fits X x0 j x
      · obtain ⟨q1, q2, q3, q4, q5, q6⟩ := fits_bits hk
        have HK := Lib.hid hk
        clear hk
        go_wp2_with (fail)
        generalize hw6 : wr.alloc _ = w6
        have ox := new_of hw6
        have om := old_of hw6 OM.out
        have o2 := old_of hw6 O2.out
        have t6 := turned_of hw6
        clear hw6
        have z2' := turned_cell t6 z2 (by simp)
        clear z1 z2 z3 c0 c1 c2 c3 c4 c5 c6
        have r1 := ox.cell 1 rfl
        have r2 := ox.cell 2 rfl
        have r3 := ox.cell 3 rfl
        have r6 := ox.cell 6 rfl
        have m0 := om.cell 0 rfl
        have m1 := om.cell 1 rfl
        have m2 := om.cell 2 rfl
        have mf := om.free 2
        go_quiet (fail)
        have hjb : j < Bs.length := by rw [H.out.2.1]; exact hlt
        have hb9 := (((H.out.2.2 j hlt hjb).none_ TW.out).none_ t6).none_ (turned_drewN w6 nq [])
        rw [HXJ.out] at hb9
        have hbn : x.bn = (Bs[j]'hjb).length := hb9.len
        have ow9 : (w6.drewN nq).ownsRow w.heap.size 5 1 (.slice sa T.length sc) T.length (flat cB T) := row_past (row_past OW.out t6 (by simp)) (turned_drewN w6 nq []) (by simp)
        have hle := take_flat_le Bs (j + 1)
        rw [take_flat Bs j hjb, List.length_append, ← HTT.out] at hle
        have HLE := Lib.hid hle
        have HBN := Lib.hid hbn
        have HB9 := Lib.hid hb9
        have OW9 := Lib.hid ow9
        have T9 := Lib.hid (turned_trans TW.out (turned_trans t6 (turned_drewN w6 nq [])))
        have OM9 := Lib.hid (show obj (w6.drewN nq) _ _ _ from om)
        have O29 := Lib.hid (show obj (w6.drewN nq) _ _ _ from o2)
        have HT9 := HT.out
        have hsz := T9.out.2.2.2.1
        clear hle hbn hb9 ow9 t6 om o2 r1 r2 r3 m0 m1
        go_wp2_with (first | (at_builtin; refine wpList_append_lies' _ rfl _ _ 23 rfl w.heap.size 5 i0 (.int .u8 0) 1 1 Try.underlying23 hi0 hz0 hz1 hz2 rfl (by decide) _ T.length (flat cB T) rfl OW9.out _ (Bs[j]'hjb).length (flat cB (Bs[j]'hjb)) rfl HB9.out.1 (flat_one cB_one _) (by have := HLE.out; unfold maxLen; omega) (by have := HLE.out; omega) (by omega) ?_) | go_in)
        intro v' w7 ho hg hl
        clear hl
        obtain ⟨va, vc, rfl, _⟩ := row_form ho
        have om7 := OM9.out.kept hg (fun e => row_ne OW9.out OM9.out (by decide) e.symm)
        have o27 := O29.out.kept hg (fun e => row_ne OW9.out O29.out (by decide) e.symm)
        have m27 := om7.cell 2 rfl
        have mf7 := om7.free 2
        have HO := Lib.hid ho
        have HG := Lib.hid hg
        have OM7 := Lib.hid om7
        have O27 := Lib.hid o27
        clear ho hg om7 o27
        go_wp2
        go_roundw
        case rel =>
          have e1 := take_flat Bs j hjb
          rw [← HTT.out] at e1
          refine ⟨j + 1, by omega, by go_num, fun t ht h => ?_, ⟨T ++ Bs[j]'hjb, va, vc, e1.symm, ?_, ?_⟩, O27.out.setOther (by show w.heap.size ≠ w.heap.size + 1; omega) _, ?_⟩
          · by_cases e : t = j
            · subst e; rw [HXJ.out]; exact HK.out
            · exact HALL.out t ht (by omega)
          · rw [List.length_append]; exact OM7.out.set 2 _
          · rw [List.length_append, flat_app]
            refine HO.out.kept (only_set (only_refl w7 (some (w.heap.size + 1))) _) (.inr fun e' => row_ne HO.out OM7.out (by decide) e')
          · exact turned_setNew (turned_new T9.out HG.out (fun k e => (row_lt OW9.out k e).1)) (by omega) _
        case measure => simp only [intOf]; omega
      · rcases unfit_bits hk with q1 | ⟨q1, q2 | ⟨q2, q3 | ⟨q3, q4 | ⟨q4, q5 | ⟨q5, q6⟩⟩⟩⟩⟩
        all_goals have HK := Lib.hid hk
        all_goals clear hk
        all_goals (try rw [q3] at c6)
        all_goals go_wp2_with (fail)
        all_goals generalize hw6 : wr.alloc _ = w6
        all_goals have ox := new_of hw6
        all_goals have om := old_of hw6 OM.out
        all_goals have o2 := old_of hw6 O2.out
        all_goals have t6 := turned_of hw6
        all_goals clear hw6
        all_goals have z2' := turned_cell t6 z2 (by simp)
        all_goals clear z1 z2 z3 c0 c1 c2 c3 c4 c5 c6
        all_goals have r1 := ox.cell 1 rfl
        all_goals have r2 := ox.cell 2 rfl
        all_goals have r3 := ox.cell 3 rfl
        all_goals have r6 := ox.cell 6 rfl
        all_goals have m0 := om.cell 0 rfl
        all_goals have m1 := om.cell 1 rfl
        all_goals have y0 := o2.cell 0 rfl
        all_goals have y1 := o2.cell 1 rfl
        all_goals have y2 := o2.cell 2 rfl
        all_goals have g0 := o2.free 0
        all_goals have g1 := o2.free 1
        all_goals have g2 := o2.free 2
        all_goals go_quiet (fail)
        all_goals go_wp2_with (fail)
        all_goals have o9 := (((show obj (w6.drewN nq) _ _ _ from o2).set 0 (.int .u16 0)).set 1 (.bool false)).set 2 (.slice none 0 0)
        all_goals have v0 := o9.cell 0 rfl
        all_goals have v1 := o9.cell 1 rfl
        all_goals have v2 := o9.cell 2 rfl
        all_goals refine bodyPost_ret (v := noMsg) (by simp [noMsg, results, Try.results20, go_sem, v0, v1, v2]) rfl ?_
        all_goals refine ⟨.inr ⟨fun ⟨h, hh⟩ => HK.out ?_, rfl⟩, ?_⟩
        all_goals first | (have := hh j hlt; rw [HXJ.out, HX0.out] at this; exact this) | exact turned_setNew (turned_setNew (turned_setNew (turned_drewN' _ (turned_trans TW.out t6)) (Nat.le_refl _) _) (Nat.le_refl _) _) (Nat.le_refl _) _
    · obtain rfl : j = X.length := by omega
      have eB : Bs.take X.length = Bs := by rw [← H.out.2.1]; exact List.take_length
      have om := OM.out
      have ow := OW.out
      have hT2 := HTT.out
      rw [eB] at hT2
      have m0 := om.cell 0 rfl
      have m1 := om.cell 1 rfl
      have m2 := om.cell 2 rfl
      have y0 := O2.out.cell 0 rfl
      have y1 := O2.out.cell 1 rfl
      have y2 := O2.out.cell 2 rfl
      have g0 := O2.out.free 0
      have g1 := O2.out.free 1
      have g2 := O2.out.free 2
      have hTT : (T.length : Int) ≤ 1048576 := by have := HT.out; rw [← hT2] at this; omega
      have HT2 := Lib.hid hT2
      clear hT2
      have OM8 := Lib.hid om
      have OW8 := Lib.hid ow
      clear om ow OM OW
      go_wp2
      have o9 := (O2.out.set 0 (.int .u16 x0.s)).set 1 (.bool (!x0.u))
      have o99 := o9.set 2 (.slice sa T.length sc)
      have v0 := o99.cell 0 rfl
      have v1 := o99.cell 1 rfl
      have v2 := o99.cell 2 rfl
      refine bodyPost_ret (v := theMsg x0 (.slice sa T.length sc)) (by simp [theMsg, results, Try.results20, go_sem, v0, v1, v2]) rfl ?_
      have hT3 := HT2.out
      subst hT3
      have ne : ∀ g, (Value.slice sa Bs.flatten.length sc).ownBlock = some g → g ∉ [w.heap.size] := fun g hg e => by
        rw [List.mem_singleton] at e
        subst e
        exact row_ne OW8.out O2.out (by decide) hg
      refine ⟨.inl ⟨hp, ⟨hp, fun t ht => ?_⟩, sa, sc, ?_, ?_⟩, ?_⟩
      · rw [HX0.out]; exact HALL.out t ht ht
      · rw [HX0.out]
      · exact row_past OW8.out (turned_set (turned_set (turned_set (turned_refl wr [w.heap.size]) (List.mem_singleton.2 rfl) _) (List.mem_singleton.2 rfl) _) (List.mem_singleton.2 rfl) _) ne
      · exact turned_setNew (turned_setNew (turned_setNew TW.out (Nat.le_refl _) _) (Nat.le_refl _) _) (Nat.le_refl _) _
end Go.Proofs.Ytcfpgeceenkheaa
