/- slices.DeleteFunc with Expire's closure. Conditions: the list, its items and the boxes lie in memory. -/
import Derived.Test.YtibnjakiagcopaaOutqDel
namespace Go.Proofs.Ytibnjakiagcopaa
open Go.RowKit Go.Deep
set_option linter.unusedVariables false
set_option linter.unusedSimpArgs false

section
variable {w w' : World} {base : Nat} {e : TypeId} {n : Nat} {xs : List Value}
theorem offRow.set1 {g off cap : Nat} (h : offRow w base e 1 (.slice (some ⟨g, off, none⟩) n cap) n xs) (j : Nat) (u : Value) : offRow (w.setCell ⟨g, off + j, none⟩ u) base e 1 (.slice (some ⟨g, off, none⟩) n cap) n (xs.set j u) := by
  refine ⟨by rw [List.length_set]; exact h.1, ?_⟩
  rcases h.2 with ⟨h', _⟩ | ⟨g', off', cap', cur, h', hb, hg, h1, h2, h3, htake⟩
  · simp at h'
  · simp only [Value.slice.injEq, Option.some.injEq, Addr.mk.injEq, and_true, true_and] at h'
    obtain ⟨⟨rfl, rfl⟩, rfl⟩ := h'
    refine .inr ⟨g, off, cap, _, rfl, hb, heap_setCell_same w g (off + j) cur e u hg, h1, h2, by simpa using h3, ?_⟩
    rw [Array.toList_setIfInBounds, List.drop_set, if_neg (by omega), Nat.add_sub_cancel_left, List.take_set, htake]
theorem offRow.cleared {g off cap : Nat} (h : offRow w base e 1 (.slice (some ⟨g, off, none⟩) n cap) n xs) (i : Nat) (hi : i ≤ n) (z : Value) : offRow (w.setCells g (off + i) (List.replicate (n - i) z)) base e 1 (.slice (some ⟨g, off, none⟩) i cap) i (xs.take i) ∧ w.grownBy (w.setCells g (off + i) (List.replicate (n - i) z)) (some g) := by
  have hl := h.1
  rcases h.2 with ⟨h', _⟩ | ⟨g', off', cap', cur, h', hb, hg, h1, h2, h3, htake⟩
  · simp at h'
  · simp only [Value.slice.injEq, Option.some.injEq, Addr.mk.injEq, and_true, true_and] at h'
    obtain ⟨⟨rfl, rfl⟩, rfl⟩ := h'
    obtain ⟨q1, q2⟩ := setCells_block (List.replicate (n - i) z) w (off + i) cur hg
    refine ⟨⟨by rw [List.length_take, hl]; omega, .inr ⟨g, off, cap, _, rfl, hb, q1, by omega, h2, by rw [setL_size]; exact h3, ?_⟩⟩, q2⟩
    rw [setL_list _ _ _ (by rw [List.length_replicate]; omega), List.append_assoc]
    have hlen : (cur.toList.take (off + i)).length = off + i := by rw [List.length_take, Array.length_toList]; omega
    rw [List.drop_append_of_le_length (by rw [hlen]; omega), List.take_append_of_le_length (by rw [List.length_drop, hlen]; omega), ← htake, List.take_take, List.drop_take]
    rw [List.take_take]
    congr 1
    omega
end
theorem boxIs.ne {w : World} {base nb gb db ib sb : Nat} {dv : Value} {now : Int} {X : XS} (h : boxIs w base nb gb db ib sb dv now X) {g : Nat} {t : TypeId} {cs : List Value} (o : obj w g t cs) (h1 : t ≠ 3) (h2 : t ≠ 34) (h3 : t ≠ 4) : g ∉ [gb, db, ib, sb] := by
  intro e
  simp only [List.mem_cons, List.not_mem_nil, or_false] at e
  rcases e with e | e | e | e
  · exact o.ne h.2.1 h1 e
  · exact o.ne h.2.2.1 h2 e
  · exact o.ne h.2.2.2.1 h1 e
  · exact o.ne h.2.2.2.2.1 h3 e
theorem boxIs.neRow {w : World} {base nb gb db ib sb : Nat} {dv : Value} {now : Int} {X : XS} (h : boxIs w base nb gb db ib sb dv now X) {b2 : Nat} {t : TypeId} {n : Nat} {v : Value} {xs : List Value} (o : offRow w b2 t 1 v n xs) (h1 : t ≠ 3) (h2 : t ≠ 34) (h3 : t ≠ 4) : ∀ q, v.ownBlock = some q → q ∉ [gb, db, ib, sb] := by
  intro q hq e
  simp only [List.mem_cons, List.not_mem_nil, or_false] at e
  rcases e with rfl | rfl | rfl | rfl
  · exact o.ne h.2.1 h1 hq
  · exact o.ne h.2.2.1 h2 hq
  · exact o.ne h.2.2.2.1 h1 hq
  · exact o.ne h.2.2.2.2.1 h3 hq
theorem itemIs.box {w w' : World} {base nb gb db ib sb : Nat} {dv : Value} {now : Int} {X : XS} {z : ZT} (hi : itemIs w z) (h : boxIs w base nb gb db ib sb dv now X) (t : turned w w' [gb, db, ib, sb]) : itemIs w' z :=
  hi.past t (h.ne hi.1 (by decide) (by decide) (by decide)) (fun q hq => h.neRow (offRow.of hi.2) (by decide) (by decide) (by decide) q hq)
theorem offRow.box {w w' : World} {base nb gb db ib sb : Nat} {dv : Value} {now : Int} {X : XS} {v : Value} {n : Nat} {xs : List Value} (o : offRow w 0 67 1 v n xs) (h : boxIs w base nb gb db ib sb dv now X) (t : turned w w' [gb, db, ib, sb]) : offRow w' 0 67 1 v n xs :=
  o.past t (h.neRow o (by decide) (by decide) (by decide))
/-- A cell of the list's row is written. -/
theorem boxIs.row {w w' : World} {base nb gb db ib sb : Nat} {dv : Value} {now : Int} {X : XS} {v : Value} {n : Nat} {xs : List Value} (h : boxIs w base nb gb db ib sb dv now X) (o : offRow w 0 67 1 v n xs) (t : turned w w' v.ownBlock.toList) : boxIs w' base nb gb db ib sb dv now X :=
  h.past t (fun k hk => by
    have hk : v.ownBlock = some k := by simpa using hk
    refine ⟨fun e => ?_, fun e => ?_, fun e => ?_, fun e => ?_, fun e => ?_, fun q hq e => ?_⟩
    · exact o.ne h.1 (by decide) (e ▸ hk)
    · exact o.ne h.2.1 (by decide) (e ▸ hk)
    · exact o.ne h.2.2.1 (by decide) (e ▸ hk)
    · exact o.ne h.2.2.2.1 (by decide) (e ▸ hk)
    · exact o.ne h.2.2.2.2.1 (by decide) (e ▸ hk)
    · exact off_ne_row o h.2.2.2.2.2.1 (by decide) k hk (e ▸ hq))
theorem itemIs.row {w w' : World} {v : Value} {n : Nat} {xs : List Value} {z : ZT} (hi : itemIs w z) (o : offRow w 0 67 1 v n xs) (t : turned w w' v.ownBlock.toList) : itemIs w' z :=
  hi.past t (fun e => o.ne hi.1 (by decide) (by simpa using e)) (fun k hk e => off_ne_row o hi.2 (by decide) k (by simpa using e) hk)
/-- What stays. -/
def stays (now : Int) (z : ZT) : Bool := !z.2.2.goes now
def kept (now : Int) (Z : List ZT) : List ZT := Z.filter (stays now)
theorem kept_next (now : Int) (Z : List ZT) (j : Nat) (h : j < Z.length) : kept now (Z.take (j + 1)) = kept now (Z.take j) ++ (if (Z[j]'h).2.2.goes now = true then [] else [Z[j]'h]) := by
  unfold kept
  rw [List.take_succ_eq_append_getElem h, List.filter_append]
  congr 1
  cases hg : (Z[j]'h).2.2.goes now <;> simp [stays, hg]
theorem kept_start (now : Int) (Z : List ZT) (i : Nat) (h : i < Z.length) (h1 : (Z[i]'h).2.2.goes now = true) (h2 : ∀ j, ∀ hj : j < i, (Z[j]'(Nat.lt_trans hj h)).2.2.goes now = false) : kept now (Z.take (i + 1)) = Z.take i := by
  rw [kept_next now Z i h, if_pos h1, List.append_nil]
  unfold kept
  rw [List.filter_eq_self]
  intro z hz
  obtain ⟨j, hj, rfl⟩ := List.getElem_of_mem hz
  have hj' : j < i := by rw [List.length_take] at hj; omega
  simp only [List.getElem_take, stays]
  rw [h2 j hj']
  rfl
theorem kept_all (now : Int) (Z : List ZT) (h : ∀ z, z ∈ Z → z.2.2.goes now = false) : kept now Z = Z := by
  unfold kept
  rw [List.filter_eq_self]
  intro z hz
  simp [stays, h z hz]
theorem kept_len (now : Int) (Z : List ZT) (j : Nat) : (kept now (Z.take j)).length ≤ j := Nat.le_trans (List.length_filter_le _ _) (by rw [List.length_take]; omega)
/-- How far the row is. -/
def DelRow (now : Int) (Z : List ZT) (i j : Nat) (Gk : List Nat) : Prop :=
  Gk.length = Z.length ∧ Gk.take i = (kept now (Z.take j)).map (·.1) ∧ i = (kept now (Z.take j)).length ∧ Gk.drop j = (Z.map (·.1)).drop j ∧ i < j
theorem DelRow.start {now : Int} {Z : List ZT} {i : Nat} (h : i < Z.length) (h1 : (Z[i]'h).2.2.goes now = true) (h2 : ∀ j, ∀ hj : j < i, (Z[j]'(Nat.lt_trans hj h)).2.2.goes now = false) : DelRow now Z i (i + 1) (Z.map (·.1)) := by
  have e := kept_start now Z i h h1 h2
  refine ⟨by simp, by rw [e, List.map_take], by rw [e, List.length_take]; omega, rfl, by omega⟩
theorem DelRow.at_ {now : Int} {Z : List ZT} {i j : Nat} {Gk : List Nat} (h : DelRow now Z i j Gk) (hj : j < Z.length) : Gk[j]? = some (Z[j]'hj).1 := by
  have e := congrArg (fun l => l[0]?) h.2.2.2.1
  simp only [List.getElem?_drop, Nat.add_zero] at e
  rw [e]
  simp [hj]
theorem DelRow.skip {now : Int} {Z : List ZT} {i j : Nat} {Gk : List Nat} (h : DelRow now Z i j Gk) (hj : j < Z.length) (hg : (Z[j]'hj).2.2.goes now = true) : DelRow now Z i (j + 1) Gk := by
  have e := kept_next now Z j hj
  rw [if_pos hg, List.append_nil] at e
  refine ⟨h.1, by rw [e]; exact h.2.1, by rw [e]; exact h.2.2.1, ?_, by have := h.2.2.2.2; omega⟩
  have := congrArg (List.drop 1) h.2.2.2.1
  rwa [List.drop_drop, List.drop_drop] at this
theorem DelRow.keep {now : Int} {Z : List ZT} {i j : Nat} {Gk : List Nat} (h : DelRow now Z i j Gk) (hj : j < Z.length) (hg : (Z[j]'hj).2.2.goes now = false) : DelRow now Z (i + 1) (j + 1) (Gk.set i (Z[j]'hj).1) := by
  have e := kept_next now Z j hj
  rw [if_neg (by rw [hg]; decide)] at e
  have hij := h.2.2.2.2
  have hl := h.1
  refine ⟨by rw [List.length_set]; exact h.1, ?_, ?_, ?_, by omega⟩
  · rw [e, List.map_append, ← h.2.1, List.take_succ_eq_append_getElem (by rw [List.length_set]; omega), List.take_set_of_le (by omega)]
    simp
  · rw [e, List.length_append, ← h.2.2.1]; rfl
  · have := congrArg (List.drop 1) h.2.2.2.1
    rw [List.drop_drop, List.drop_drop] at this
    rw [List.drop_set_of_lt (by omega)]
    exact this
def DelRel (w : World) (v : Value) (Z : List ZT) (nb gb db ib sb base : Nat) (dv : Value) (now : Int) (X : XS) (i j : Nat) (wr : World) : Prop :=
  ∃ dv' Gk, DelRow now Z i j Gk ∧ offRow wr 0 67 1 v Z.length (flat cP Gk) ∧ boxIs wr base nb gb db ib sb dv' now (X.run now ((Z.map (·.2.2)).take j)) ∧ (∀ z, z ∈ Z → itemIs wr z) ∧ (∀ q, dv'.ownBlock = some q → dv.ownBlock = some q ∨ w.heap.size ≤ q) ∧ turned w wr ([gb, db, ib, sb] ++ v.ownBlock.toList)
/-- What DeleteFunc leaves. -/
def DelPost (w : World) (v : Value) (Z : List ZT) (nb gb db ib sb base : Nat) (dv : Value) (now : Int) (X : XS) (e : Ending) (w' : World) : Prop :=
  ∃ dv' v', e = .returned v' ∧ v'.ownBlock = v.ownBlock ∧ offRow w' 0 67 1 v' (kept now Z).length (flat cP ((kept now Z).map (·.1))) ∧ boxIs w' base nb gb db ib sb dv' now (X.run now (Z.map (·.2.2))) ∧ (∀ z, z ∈ Z → itemIs w' z) ∧ (∀ q, dv'.ownBlock = some q → dv.ownBlock = some q ∨ w.heap.size ≤ q) ∧ turned w w' ([gb, db, ib, sb] ++ v.ownBlock.toList)
theorem zeroP (w : World) : (zeroValue 67).run Try.prog w = .ok (.pointer none) w := by
  obtain ⟨i0, hi0, hz0, hz1, hz2⟩ := info_parts infoP
  simp [zeroValue, typeInfo, hi0, hz0]
set_option maxRecDepth 100000 in
set_option maxHeartbeats 4000000 in
theorem odel (v : Value) (Z : List ZT) (nb gb db ib sb base k : Nat) (dv : Value) (now : Int) (X : XS) (w : World) (hv : offRow w 0 67 1 v Z.length (flat cP (Z.map (·.1)))) (hZ : ∀ z, z ∈ Z → itemIs w z) (hk : ∀ z, z ∈ Z → z.2.2.ok k)
    (hb : boxIs w base nb gb db ib sb dv now X) (hbs : base ≤ w.heap.size) (hX : X.gone = 0) (hn : Z.length ≤ 1000000) :
    Calls Try.prog 29 #[v, .func (.func 30) #[] (capt nb gb db ib sb)] w (DelPost w v Z nb gb db ib sb base dv now X) := by
  have hi := oidx v Z nb gb db ib sb base k dv now X w hv hZ hk hb hbs (by omega) hn
  obtain ⟨a, c, rfl, hc1, hc2, ha⟩ := hv.form
  have HV := Lib.hid hv
  have HZ := Lib.hid hZ
  have HK := Lib.hid hk
  have HB := Lib.hid hb
  have HA := Lib.hid ha
  have HI := Lib.hid hi
  clear hv hZ hk hb ha hi
  go_enter Try.func29, Try.ntmps29
  go_wp2_with fail
  refine HI.out.mono ?_
  rintro e w1 (⟨dv', h1, h2, rfl, h4, h5⟩ | ⟨dv', i0, hi0, h1, h2, h3, rfl, h4, h5⟩)
  · have P : DelPost w (.slice a Z.length c) Z nb gb db ib sb base dv now X (.returned (.slice a Z.length c)) w1 := ⟨dv', _, rfl, rfl, by rw [kept_all now Z h2]; exact HV.out.box HB.out h5, h1, fun z hz => (HZ.out z hz).box HB.out h5, h4, turned_more h5 (fun q hq => List.mem_append_left _ hq)⟩
    have HP := Lib.hid P
    clear P h1 h2 h4 h5
    go_wp2_with fail
    go_ret
    exact HP.out
  · obtain ⟨gi, off, rfl⟩ := HA.out (by omega)
    have hne1 : ((i0 : Int) == -1) = false := beq_eq_false_iff_ne.2 (by omega)
    have hD : DelRel w (.slice (some ⟨gi, off, none⟩) Z.length c) Z nb gb db ib sb base dv now X i0 (i0 + 1) w1 := ⟨dv', _, DelRow.start hi0 h2 h3, HV.out.box HB.out h5, h1, fun z hz => (HZ.out z hz).box HB.out h5, h4, turned_more h5 (fun q hq => List.mem_append_left _ hq)⟩
    have HD := Lib.hid hD
    clear hD h1 h2 h3 h4 h5
    go_wp2_with fail
    go_loopg [5, 6, 7] Z.length (fun gg s5 s6 _ wr => ∃ i j : Nat, s5 = .int .i64 (i : Int) ∧ s6 = .int .i64 (j : Int) ∧ j ≤ Z.length ∧ Z.length - j ≤ gg ∧ DelRel w (.slice (some ⟨gi, off, none⟩) Z.length c) Z nb gb db ib sb base dv now X i j wr)
    case atStart => exact ⟨i0, i0 + 1, rfl, by go_num, by omega, by omega, HD.out⟩
    case round =>
      obtain ⟨i, j, rfl, rfl, hjn, hgg, dv2, Gk, r1, r2, r3, r4, r5, r6⟩ := hrel
      have R1 := Lib.hid r1
      have R2 := Lib.hid r2
      have R3 := Lib.hid r3
      have R4 := Lib.hid r4
      have R5 := Lib.hid r5
      have R6 := Lib.hid r6
      have hij := r1.2.2.2.2
      have hgl := r1.1
      clear r1 r2 r3 r4 r5 r6
      by_cases hlt : j < Z.length
      · have hltz : (j : Int) < (Z.length : Int) := by omega
        have hmem := List.getElem_mem hlt
        have ej : wr.cell? ⟨gi, off + j, none⟩ = some (.pointer (some ⟨(Z[j]'hlt).1, 0, none⟩)) := by
          refine R2.out.cellAt j ?_
          have e1 := R1.out.at_ hlt
          obtain ⟨hj', e2⟩ := List.getElem?_eq_some_iff.1 e1
          rw [flatP_at _ j hj', e2]
        have hrow : (X.run now ((Z.map (·.2.2)).take j)).gone ≤ 1000000 * 1048576 ∧ 0 ≤ (X.run now ((Z.map (·.2.2)).take j)).gone := by
          have h := XS.run_gone (now := now) (L := (Z.map (·.2.2)).take j) (k := k) (X := X) (fun x hx => by
            obtain ⟨z, hz, rfl⟩ := List.mem_map.1 (List.mem_of_mem_take hx)
            exact HK.out z hz)
          have hl : ((Z.map (·.2.2)).take j).length ≤ 1000000 := by rw [List.length_take, List.length_map]; omega
          omega
        have hw6 := R6.out.2.2.2.1
        have hst := XS.run_take now X (Z.map (·.2.2)) j (by simpa using hlt)
        simp only [List.getElem_map] at hst
        have hcall := fun b (hx : (Z[j]'hlt).2.2.goes now = b) => oexp (Z[j]'hlt).1 nb gb db ib sb base k (Z[j]'hlt).2.1 dv2 (Z[j]'hlt).2.2 now _ wr (R4.out _ hmem) (HK.out _ hmem) R3.out (by omega) (by omega) b hx
        have HST := Lib.hid hst
        clear hst
        cases hq : (Z[j]'hlt).2.2.goes now with
        | true =>
          have hcall := Lib.hid (hcall true hq)
          generalize hZg : (Z[j]'hlt).1 = zg at ej hcall
          have HG := Lib.hid hZg
          have HQ := Lib.hid hq
          clear hZg hq hrow
          go_wp2_with (go_at_call 30; refine hcall.out.mono ?_; rintro e w2 ⟨rfl, ⟨dv3, hb3, hd3⟩, t3⟩)
          go_roundg (Z.length - (j + 1))
          case measure => omega
          case rel =>
            refine ⟨i, j + 1, rfl, by go_num, by omega, Nat.le_refl _, dv3, Gk, R1.out.skip hlt HQ.out, R2.out.box R3.out t3, by rw [HST.out]; exact hb3, fun z hz => (R4.out z hz).box R3.out t3, fun q hq => ?_, turned_trans R6.out (turned_more t3 (fun q hq => List.mem_append_left _ hq))⟩
            rcases hd3 q hq with h | h
            · exact R5.out q h
            · exact .inr (by omega)
        | false =>
          have hcall := Lib.hid (hcall false hq)
          obtain ⟨ov, hov⟩ : ∃ ov, (flat cP Gk)[i]? = some ov := ⟨_, flatP_at _ i (by omega)⟩
          have HOV := Lib.hid hov
          have hsetG : (flat cP Gk).set i (.pointer (some ⟨(Z[j]'hlt).1, 0, none⟩)) = flat cP (Gk.set i (Z[j]'hlt).1) := by
            have := flat_set cP_len Gk i (by omega) 0 (by omega) (.pointer (some ⟨(Z[j]'hlt).1, 0, none⟩)) (Z[j]'hlt).1 rfl
            rwa [Nat.mul_one, Nat.add_zero] at this
          have HS := Lib.hid hsetG
          have HKP := Lib.hid (R1.out.keep hlt hq)
          clear hsetG hov
          generalize hZg : (Z[j]'hlt).1 = zg at ej hcall HS HKP
          have HQ := Lib.hid hq
          clear hZg hq hrow
          go_wp2_with (go_at_call 30; refine hcall.out.mono ?_; rintro e w2 ⟨rfl, ⟨dv3, hb3, hd3⟩, t3⟩; have r7 := R2.out.box R3.out t3; have c7 := r7.cellAt i HOV.out; have f7 := r7.free (off + i); have R7 := Lib.hid r7; have HB3 := Lib.hid hb3; have HD3 := Lib.hid hd3; have T3 := Lib.hid t3; clear r7 hb3 hd3 t3)
          go_roundg (Z.length - (j + 1))
          case measure => omega
          case rel =>
            have t8 : turned w2 (w2.setCell ⟨gi, off + i, none⟩ (.pointer (some ⟨zg, 0, none⟩))) (Value.slice (some ⟨gi, off, none⟩) Z.length c).ownBlock.toList := turned_set (turned_refl _ _) (by simp [Value.ownBlock]) _
            refine ⟨i + 1, j + 1, by go_num, by go_num, by omega, Nat.le_refl _, dv3, Gk.set i zg, HKP.out, ?_, by rw [HST.out]; exact HB3.out.row R7.out t8, fun z hz => ((R4.out z hz).box R3.out T3.out).row R7.out t8, fun q hq => ?_, turned_trans R6.out (turned_trans (turned_more T3.out (fun q hq => List.mem_append_left _ hq)) (turned_more t8 (fun q hq => List.mem_append_right _ hq)))⟩
            · rw [← HS.out]
              exact R7.out.set1 i _
            · rcases HD3.out q hq with h | h
              · exact R5.out q h
              · exact .inr (by omega)
      · have hjl : j = Z.length := by omega
        subst hjl
        have hltz : ¬ (Z.length : Int) < (Z.length : Int) := by omega
        have hcl : ∀ ty, (Builtin.clear_ #[63] ty #[.slice (some ⟨gi, off + i, none⟩) (Z.length - i) (c - i)]).run Try.prog wr = .ok (.tuple #[]) (wr.setCells gi (off + i) (List.replicate (Z.length - i) (.pointer none))) :=
          fun ty => Lib.run_clear_slice wr _ _ ty _ Try.underlying63 zeroP rfl rfl gi (off + i) _ _ (by omega) (fun t ht => by
            rw [show off + i + t = off + (i + t) by omega, R2.out.cellAt (i + t) (flatP_at _ (i + t) (by omega))]; rfl) (fun t ht => R2.out.free _)
        have b1 : (i : Int) ≤ (Z.length : Int) := by omega
        have b2 : ¬ c = i := by omega
        have b3 : ¬ c ≤ i := by omega
        have b4 : i ≤ Z.length := by omega
        have b5 : (i : Int) ≤ (c : Int) := by omega
        have b6 : i ≤ c := by omega
        go_wp2_with fail
        go_ret
        obtain ⟨q1, q2⟩ := R2.out.cleared i (by omega) (.pointer none)
        have tq : turned wr _ (Value.slice (some ⟨gi, off, none⟩) Z.length c).ownBlock.toList := turned_one q2 (by simp [Value.ownBlock])
        have e1 : (kept now (Z.take Z.length)) = kept now Z := by rw [List.take_length]
        have e2 := R1.out.2.2.1
        have e3 := R1.out.2.1
        rw [e1] at e2 e3
        have e4 : (flat cP Gk).take i = flat cP ((kept now Z).map (·.1)) := by rw [← e3]; have := flat_take cP_len Gk i; rw [Nat.mul_one] at this; exact this.symm
        rw [e4] at q1
        refine ⟨dv2, _, rfl, rfl, ?_, ?_, fun z hz => (R4.out z hz).row R2.out tq, R5.out, turned_trans R6.out (turned_more tq (fun q hq => List.mem_append_right _ hq))⟩
        · rw [← e2]; exact q1
        · have := R3.out.row R2.out tq
          rw [List.take_of_length_le (by simp)] at this
          exact this
end Go.Proofs.Ytibnjakiagcopaa
