/- Expire. Conditions: the queue lies in memory. -/
import Derived.Test.YtibnjakiagcopaaOutqDel2
namespace Go.Proofs.Ytibnjakiagcopaa
open Go.RowKit Go.Deep
set_option linter.unusedVariables false
set_option linter.unusedSimpArgs false

/-- The queue behind Expire. -/
def QS.expire (S : QS) (now : Int) : QS := { S with L := S.L.filter (fun x => !x.goes now), used := freed S.used (XS.zero.run now S.L).gone }
theorem kept_map (now : Int) (Z : List ZT) : (kept now Z).map (·.2.2) = (Z.map (·.2.2)).filter (fun x => !x.goes now) := by
  unfold kept
  rw [List.filter_map]
  rfl
theorem kept_foot {now : Int} {b : Nat} {v v' sv : Value} {Z : List ZT} (h : v'.ownBlock = v.ownBlock) : ∀ q, q ∈ foot b v' sv (kept now Z) → q ∈ foot b v sv Z := by
  intro q hq
  simp only [foot, List.mem_cons, List.mem_append, Option.mem_toList, h] at hq ⊢
  rcases hq with e | e | e | e
  · exact .inl e
  · exact .inr (.inl e)
  · exact .inr (.inr (.inl e))
  · obtain ⟨z, hz, hk⟩ := mem_zfoot.1 e
    exact .inr (.inr (.inr (mem_zfoot.2 ⟨z, (List.mem_filter.1 hz).1, hk⟩)))
/-- The list that is left is laid into the queue. -/
theorem outP.expired {w w1 : World} {b nb gb db ib sb base : Nat} {v v' sv dv dv' : Value} {Z : List ZT} {S : QS} {now : Int} {X X' : XS} (h : outP w b v sv Z S) (hb : boxIs w base nb gb db ib sb dv now X) (t : turned w w1 ([gb, db, ib, sb] ++ v.ownBlock.toList)) (hb1 : boxIs w1 base nb gb db ib sb dv' now X')
    (hv : v'.ownBlock = v.ownBlock) (hr : offRow w1 0 67 1 v' (kept now Z).length (flat cP ((kept now Z).map (·.1)))) (hi : ∀ z, z ∈ Z → itemIs w1 z) :
    outP (w1.setCell ⟨b, 0, none⟩ v') b v' sv (kept now Z) { S with L := S.L.filter (fun x => !x.goes now) } ∧ boxIs (w1.setCell ⟨b, 0, none⟩ v') base nb gb db ib sb dv' now X' ∧ turned w1 (w1.setCell ⟨b, 0, none⟩ v') [b] ∧ obj w1 b 65 [v, .int .i64 S.many, .int .i64 S.room, .int .i64 S.used, sv] := by
  obtain ⟨h1, h2, h3, h4, h5, h6⟩ := h
  have o1 : obj w1 b 65 [v, .int .i64 S.many, .int .i64 S.room, .int .i64 S.used, sv] := h1.past t (fun e => by
    rcases List.mem_append.1 e with e | e
    · exact hb.ne h1 (by decide) (by decide) (by decide) e
    · exact h2.ne h1 (by decide) (by simpa using e))
  have r1 := row_past h3 t (fun q hq e => by
    rcases List.mem_append.1 e with e | e
    · exact hb.neRow (offRow.of h3) (by decide) (by decide) (by decide) q hq e
    · exact off_ne_row h2 h3 (by decide) q (by simpa using e) hq)
  have tb : turned w1 (w1.setCell ⟨b, 0, none⟩ v') [b] := turned_set (turned_refl _ _) (by simp) _
  refine ⟨⟨o1.set 0 _, hr.past tb (fun q hq e => hr.ne o1 (by decide) (by rw [hq, List.mem_singleton.1 e])), row_past r1 tb (fun q hq e => row_ne r1 o1 (by decide) (by rw [hq, List.mem_singleton.1 e])), ?_, fun z hz => ?_, ?_⟩, hb1.past tb (fun k hk => ?_), tb, o1⟩
  · rw [kept_map, h4]
  · have hz' := hi z (List.mem_filter.1 hz).1
    exact hz'.past tb (fun e => hz'.1.ne o1 (by decide) (List.mem_singleton.1 e)) (fun q hq e => row_ne hz'.2 o1 (by decide) (by rw [hq, List.mem_singleton.1 e]))
  · exact h6.sublist (List.filter_sublist.map _)
  · rw [List.mem_singleton.1 hk]
    exact ⟨fun e => o1.ne (e ▸ hb1.1) (by decide) rfl, fun e => o1.ne (e ▸ hb1.2.1) (by decide) rfl, fun e => o1.ne (e ▸ hb1.2.2.1) (by decide) rfl, fun e => o1.ne (e ▸ hb1.2.2.2.1) (by decide) rfl, fun e => o1.ne (e ▸ hb1.2.2.2.2.1) (by decide) rfl, fun q hq e => row_ne hb1.2.2.2.2.2.1 o1 (by decide) (by rw [hq, e])⟩
theorem results_cells3 {P : Program} {fn : Func} {p t u : Tmp} {ty tt tu : TypeId} (h : fn.results = #[.cell p ty, .cell t tt, .cell u tu]) (tmps : Array Value) (w : World) (g g1 g2 : Nat) (t' : TypeId) (cs : Array Value) (fr : Nat × Nat) (d : TypeDesc)
    (hp : tmps.getD p undef = .pointer (some ⟨g, 0, none⟩)) (hp1 : tmps.getD t undef = .pointer (some ⟨g1, 0, none⟩)) (hp2 : tmps.getD u undef = .pointer (some ⟨g2, 0, none⟩)) (hg : w.heap[g]? = some (.cells cs t' fr))
    (hu : P.underlying ty = some d) (hd : (match d with | .struct _ | .array _ _ => true | _ => false) = true) (hi : (P.info? ty).map (·.size) = some cs.size) (v1 v2 : Value) (h1 : (loadVar tt ⟨g1, 0, none⟩).run P w = .ok v1 w) (h2 : (loadVar tu ⟨g2, 0, none⟩).run P w = .ok v2 w) :
    (results fn tmps).run P w = .ok (.tuple #[.agg cs, v1, v2]) w := by
  have hp' : tmps[p]?.getD undef = .pointer (some ⟨g, 0, none⟩) := by simpa using hp
  have hp1' : tmps[t]?.getD undef = .pointer (some ⟨g1, 0, none⟩) := by simpa using hp1
  have hp2' : tmps[u]?.getD undef = .pointer (some ⟨g2, 0, none⟩) := by simpa using hp2
  simp [results, h, hp', hp1', hp2', asAddr, run_loadVar_row w g t' ty cs fr d hg hu hd hi, h1, h2]
set_option maxRecDepth 100000 in
set_option maxHeartbeats 2000000 in
theorem oexpire (b : Nat) (F : List Nat) (S : QS) (n : Nat) (now : Int) (w : World) (h : outIs w b F S) (hk : S.ok n) (hn : n ≤ 1000000) :
    Calls Try.prog 12 #[.pointer (some ⟨b, 0, none⟩), .int .i64 now] w fun e w' => ∃ dv, e = .returned (.tuple #[.agg #[.int .u32 0, .int .u16 (XS.zero.run now S.L).s, .int .u16 (XS.zero.run now S.L).n, .bool (XS.zero.run now S.L).u, .bool false, .bool (XS.zero.run now S.L).some, dv], .int .i64 (XS.zero.run now S.L).id, .bool (XS.zero.run now S.L).some]) ∧
      w'.ownsRow w.heap.size 5 1 dv (XS.zero.run now S.L).B.length (flat cB (XS.zero.run now S.L).B) ∧ (∃ F', outIs w' b F' (S.expire now) ∧ ∀ q, q ∈ F' → q ∈ F) ∧ turned w w' F := by
  obtain ⟨v, sv, Z, rfl, hp⟩ := h.p
  obtain ⟨va, vc, rfl, hvc1, hvc2, hva⟩ := hp.2.1.form
  have tA : turned w (((((w.alloc (.cells #[.int .i64 now] 2)).alloc (.cells #[.int .u32 0, .int .u16 0, .int .u16 0, .bool false, .bool false, .bool false, .slice none 0 0] 34)).alloc (.cells #[.int .i64 0] 3)).alloc (.cells #[.bool false] 4)).alloc (.cells #[.int .i64 0] 3)) [] := turned_alloc (turned_alloc (turned_alloc (turned_alloc (turned_alloc (turned_refl w []) _) _) _) _) _
  have s1 : (w.alloc (.cells #[.int .i64 now] 2)).heap.size = w.heap.size + 1 := by simp
  have s2 : ((w.alloc (.cells #[.int .i64 now] 2)).alloc (.cells #[.int .u32 0, .int .u16 0, .int .u16 0, .bool false, .bool false, .bool false, .slice none 0 0] 34)).heap.size = w.heap.size + 1 + 1 := by simp
  have s3 : (((w.alloc (.cells #[.int .i64 now] 2)).alloc (.cells #[.int .u32 0, .int .u16 0, .int .u16 0, .bool false, .bool false, .bool false, .slice none 0 0] 34)).alloc (.cells #[.int .i64 0] 3)).heap.size = w.heap.size + 1 + 1 + 1 := by simp
  have s4 : ((((w.alloc (.cells #[.int .i64 now] 2)).alloc (.cells #[.int .u32 0, .int .u16 0, .int .u16 0, .bool false, .bool false, .bool false, .slice none 0 0] 34)).alloc (.cells #[.int .i64 0] 3)).alloc (.cells #[.bool false] 4)).heap.size = w.heap.size + 1 + 1 + 1 + 1 := by simp
  have oN := ((((obj.new w 2 [.int .i64 now]).alloc (.cells #[.int .u32 0, .int .u16 0, .int .u16 0, .bool false, .bool false, .bool false, .slice none 0 0] 34)).alloc (.cells #[.int .i64 0] 3)).alloc (.cells #[.bool false] 4)).alloc (.cells #[.int .i64 0] 3)
  have oD := (((obj.new (w.alloc (.cells #[.int .i64 now] 2)) 34 [.int .u32 0, .int .u16 0, .int .u16 0, .bool false, .bool false, .bool false, .slice none 0 0]).alloc (.cells #[.int .i64 0] 3)).alloc (.cells #[.bool false] 4)).alloc (.cells #[.int .i64 0] 3)
  have oI := ((obj.new ((w.alloc (.cells #[.int .i64 now] 2)).alloc (.cells #[.int .u32 0, .int .u16 0, .int .u16 0, .bool false, .bool false, .bool false, .slice none 0 0] 34)) 3 [.int .i64 0]).alloc (.cells #[.bool false] 4)).alloc (.cells #[.int .i64 0] 3)
  have oS := (obj.new (((w.alloc (.cells #[.int .i64 now] 2)).alloc (.cells #[.int .u32 0, .int .u16 0, .int .u16 0, .bool false, .bool false, .bool false, .slice none 0 0] 34)).alloc (.cells #[.int .i64 0] 3)) 4 [.bool false]).alloc (.cells #[.int .i64 0] 3)
  have oG := obj.new ((((w.alloc (.cells #[.int .i64 now] 2)).alloc (.cells #[.int .u32 0, .int .u16 0, .int .u16 0, .bool false, .bool false, .bool false, .slice none 0 0] 34)).alloc (.cells #[.int .i64 0] 3)).alloc (.cells #[.bool false] 4)) 3 [.int .i64 0]
  rw [s1] at oD
  rw [s2] at oI
  rw [s3] at oS
  rw [s4] at oG
  have hB : boxIs (((((w.alloc (.cells #[.int .i64 now] 2)).alloc (.cells #[.int .u32 0, .int .u16 0, .int .u16 0, .bool false, .bool false, .bool false, .slice none 0 0] 34)).alloc (.cells #[.int .i64 0] 3)).alloc (.cells #[.bool false] 4)).alloc (.cells #[.int .i64 0] 3)) w.heap.size w.heap.size (w.heap.size + 1 + 1 + 1 + 1) (w.heap.size + 1) (w.heap.size + 1 + 1) (w.heap.size + 1 + 1 + 1) (.slice none 0 0) now XS.zero := ⟨oN, oG, oD, oI, oS, World.ownsRow_nil _ _ _ _, by omega⟩
  have pA := hp.past tA (by simp)
  have c0 := pA.1.cell 0 rfl
  have hlt := hp.is.lt
  have HP := Lib.hid hp
  have HK := Lib.hid hk
  have HB := Lib.hid hB
  have PA := Lib.hid pA
  have TA := Lib.hid tA
  clear h hp hk hva tA s1 s2 s3 s4 oN oD oI oS oG hB pA
  obtain ⟨X, hX⟩ : ∃ X, X = XS.zero.run now S.L := ⟨_, rfl⟩
  rw [← hX]
  have HX := Lib.hid hX
  clear hX
  go_enter Try.func12, Try.ntmps12
  go_wp2_with fail
  have hge : ∀ k, k ∈ [w.heap.size + 1 + 1 + 1 + 1, w.heap.size + 1, w.heap.size + 1 + 1, w.heap.size + 1 + 1 + 1] → w.heap.size ≤ k := by intro k hk; simp at hk; omega
  generalize (((((w.alloc (.cells #[.int .i64 now] 2)).alloc (.cells #[.int .u32 0, .int .u16 0, .int .u16 0, .bool false, .bool false, .bool false, .slice none 0 0] 34)).alloc (.cells #[.int .i64 0] 3)).alloc (.cells #[.bool false] 4)).alloc (.cells #[.int .i64 0] 3)) = wA at *
  generalize w.heap.size + 1 + 1 + 1 + 1 = gb at *
  generalize w.heap.size + 1 + 1 + 1 = sb at *
  generalize w.heap.size + 1 + 1 = ib at *
  generalize w.heap.size + 1 = db at *
  have hzl : Z.length = S.L.length := by rw [← HP.out.2.2.2.1, List.length_map]
  have hkl := HK.out.l
  refine (odel (.slice va Z.length vc) Z w.heap.size gb db ib sb w.heap.size S.ssn.length (.slice none 0 0) now XS.zero wA PA.out.2.1 PA.out.2.2.2.2.1 (fun z hz => HK.out.it _ (by rw [← HP.out.2.2.2.1]; exact List.mem_map.2 ⟨z, hz, rfl⟩)) HB.out TA.out.2.2.2.1 rfl (by omega)).mono ?_
  rintro e w1 ⟨dv1, v1, rfl, hv1, hr1, hb1, hi1, hd1, t1⟩
  rw [HP.out.2.2.2.1] at hb1
  rw [← HX.out] at hb1
  obtain ⟨da, dc, rfl, _, _, _⟩ := row_form hb1.2.2.2.2.2.1
  obtain ⟨a1, c1, rfl, _, _, _⟩ := hr1.form

  obtain ⟨p2, b2, t2, o1⟩ := PA.out.expired HB.out t1 hb1 hv1 hr1 hi1
  have x0 := o1.cell 0 rfl
  have y0 := o1.free 0
  have g2 := b2.2.1.cell 0 rfl
  have hk2 : ({ S with L := S.L.filter (fun x => !x.goes now) } : QS).ok n := by
    have k := HK.out
    exact ⟨Nat.le_trans (List.length_filter_le _ _) k.l, k.m0, k.m1, k.r0, k.r1, k.u0, k.u1, k.k0, k.k1, k.ks, fun x hx => k.it x (List.mem_filter.1 hx).1⟩
  have P2 := Lib.hid p2
  have B2 := Lib.hid b2
  have T2 := Lib.hid t2
  have T1 := Lib.hid t1
  have HV1 := Lib.hid hv1
  have HK2 := Lib.hid hk2
  have HGE := Lib.hid hge
  have HLT := Lib.hid hlt
  clear p2 b2 t2 o1 hr1 hb1 hi1 hd1 t1 hv1 hk2 c0 hge hlt
  go_wp2_with fail
  refine (ofree b _ _ n _ _ P2.out.is HK2.out).mono ?_
  rintro e w3 ⟨rfl, h3, t3⟩
  have hbF : ∀ q, q ∈ foot b (.slice a1 (kept now Z).length c1) sv (kept now Z) → q < w.heap.size := fun q hq => HLT.out q (kept_foot (v := .slice va Z.length vc) HV1.out q hq)
  have b3 : boxIs w3 w.heap.size w.heap.size gb db ib sb (.slice da X.B.length dc) now X := B2.out.past t3 (fun k hk => by
    have h := hbF k hk
    have e1 := HGE.out gb (by simp)
    have e2 := HGE.out db (by simp)
    have e3 := HGE.out ib (by simp)
    have e4 := HGE.out sb (by simp)
    exact ⟨by omega, by omega, by omega, by omega, by omega, fun q hq => by have := (row_lt0 B2.out.2.2.2.2.2.1 q hq).1; omega⟩)
  have H3 := Lib.hid h3
  have T3 := Lib.hid t3
  have B3 := Lib.hid b3
  have HBF := Lib.hid hbF
  clear h3 t3 b3 hbF x0 y0 g2
  go_wp2_with fail
  have hD : obj w3 db 34 [.int .u32 0, .int .u16 X.s, .int .u16 X.n, .bool X.u, .bool false, .bool X.some, (.slice da X.B.length dc)] := B3.out.2.2.1
  refine wp_region_held_drew (S := fun w' => obj w' db 34 [.int .u32 0, .int .u16 X.s, .int .u16 X.n, .bool X.u, .bool false, .bool X.some, (.slice da X.B.length dc)] ∧ obj w' ib 3 [.int .i64 X.id] ∧ obj w' sb 4 [.bool X.some]) (by kernel_rfl) ⟨hD, B3.out.2.2.2.1, B3.out.2.2.2.2.1⟩ (fun hH => ?_)
  refine wpAnyH_take (i := 0) (v := .agg #[.int .u32 0, .int .u16 X.s, .int .u16 X.n, .bool X.u, .bool false, .bool X.some, (.slice da X.B.length dc)]) rfl (by kernel_rfl) (by kernel_rfl) (by kernel_rfl) (fun _ _ _ h => h) (Or.inl ⟨by rfl, fun w' hS => exec_load_row rfl _ _ rfl _ rfl _ _ _ _ hS.1 Try.underlying34 rfl (by kernel_rfl)⟩) hH ?_
  (try simp only [List.getElem_toArray, List.getElem_cons_succ, List.getElem_cons_zero, Act.put, List.setIfInBounds_toArray, List.set_cons_zero, List.set_cons_succ])
  refine wpAnyH_take (i := 1) (v := .int .i64 X.id) rfl (by kernel_rfl) (by kernel_rfl) (by kernel_rfl) (fun _ _ _ h => h) (Or.inl ⟨by rfl, fun w' hS => (by have z0 := hS.2.1.cell 0 rfl; clear hS hH hD; go_simp)⟩) hH ?_
  (try simp only [List.getElem_toArray, List.getElem_cons_succ, List.getElem_cons_zero, Act.put, List.setIfInBounds_toArray, List.set_cons_zero, List.set_cons_succ])
  refine wpAnyH_take (i := 2) (v := .bool X.some) rfl (by kernel_rfl) (by kernel_rfl) (by kernel_rfl) (fun _ _ _ h => h) (Or.inl ⟨by rfl, fun w' hS => (by have z0 := hS.2.2.cell 0 rfl; clear hS hH hD; go_simp)⟩) hH ?_
  (try simp only [List.getElem_toArray, List.getElem_cons_succ, List.getElem_cons_zero, Act.put, List.setIfInBounds_toArray, List.set_cons_zero, List.set_cons_succ])
  refine wpAnyH_ready (rs := [3]) (by kernel_rfl) (by simp) ?_
  refine AllReadyH.cons rfl (fun K hK => ?_) AllReadyH.nil
  have HKK := Lib.hid hK
  clear hK
  (try simp only [List.getElem_toArray, List.getElem_cons_succ, List.getElem_cons_zero])
  rw [if_pos (by rfl)]
  refine wp_store_row 34 _ _ rfl db #[.int .u32 0, .int .u16 X.s, .int .u16 X.n, .bool X.u, .bool false, .bool X.some, (.slice da X.B.length dc)] rfl rfl 34 _ hH.1 (by kernel_rfl) rfl (by rw [← Array.all_toList]; rfl) ?_
  have D6 := Lib.hid (show obj (w3.drew.setRow db #[.int .u32 0, .int .u16 X.s, .int .u16 X.n, .bool X.u, .bool false, .bool X.some, (.slice da X.B.length dc)]) db 34 [.int .u32 0, .int .u16 X.s, .int .u16 X.n, .bool X.u, .bool false, .bool X.some, (.slice da X.B.length dc)] from setRow_heap w3.drew db _ #[.int .u32 0, .int .u16 X.s, .int .u16 X.n, .bool X.u, .bool false, .bool X.some, (.slice da X.B.length dc)] _ _ hH.1)
  have t6 := turned_setRow w3.drew db #[.int .u32 0, .int .u16 X.s, .int .u16 X.n, .bool X.u, .bool false, .bool X.some, (.slice da X.B.length dc)]
  generalize w3.drew.setRow db #[.int .u32 0, .int .u16 X.s, .int .u16 X.n, .bool X.u, .bool false, .bool X.some, (.slice da X.B.length dc)] = w6 at D6 t6 ⊢
  have I6 := Lib.hid (hH.2.1.past t6 (fun e => hH.2.1.ne hH.1 (by decide) (List.mem_singleton.1 e)))
  have S6 := Lib.hid (hH.2.2.past t6 (fun e => hH.2.2.ne hH.1 (by decide) (List.mem_singleton.1 e)))
  have x0 := I6.out.cell 0 rfl
  have y0 := I6.out.free 0
  refine HKK.out.out _ _ ⟨D6.out, I6.out, S6.out⟩ (fun hH6 => ?_)
  clear HKK K
  (try simp only [List.getElem_toArray, List.getElem_cons_succ, List.getElem_cons_zero, Act.put, List.setIfInBounds_toArray, List.set_cons_zero, List.set_cons_succ])
  refine wpAnyH_ready (rs := [4]) (by kernel_rfl) (by simp) ?_
  refine AllReadyH.cons rfl (fun K hK => ?_) AllReadyH.nil
  have HKK := Lib.hid hK
  clear hK
  (try simp only [List.getElem_toArray, List.getElem_cons_succ, List.getElem_cons_zero])
  go_simp
  obtain ⟨w7, hw7⟩ : ∃ w7, w6.setCell ⟨ib, 0, none⟩ (.int .i64 X.id) = w7 := ⟨_, rfl⟩
  have t7 : turned w6 w7 [ib] := hw7 ▸ turned_set (turned_refl _ _) (by simp) _
  have I7 := Lib.hid (show obj w7 ib 3 [.int .i64 X.id] from hw7 ▸ I6.out.set 0 _)
  rw [hw7]
  have D7 := Lib.hid (D6.out.past t7 (fun e => (show obj w6 db 34 [.int .u32 0, .int .u16 X.s, .int .u16 X.n, .bool X.u, .bool false, .bool X.some, (.slice da X.B.length dc)] from D6.out).ne I6.out (by decide) (List.mem_singleton.1 e)))
  have S7 := Lib.hid (S6.out.past t7 (fun e => S6.out.ne I6.out (by decide) (List.mem_singleton.1 e)))
  clear x0 y0 hw7
  have x0 := S7.out.cell 0 rfl
  have y0 := S7.out.free 0
  refine HKK.out.out _ _ ⟨D7.out, I7.out, S7.out⟩ (fun hH7 => ?_)
  clear HKK K
  (try simp only [List.getElem_toArray, List.getElem_cons_succ, List.getElem_cons_zero, Act.put, List.setIfInBounds_toArray, List.set_cons_zero, List.set_cons_succ])
  refine wpAnyH_ready (rs := [5]) (by kernel_rfl) (by simp) ?_
  refine AllReadyH.cons rfl (fun K hK => ?_) AllReadyH.nil
  have HKK := Lib.hid hK
  clear hK
  (try simp only [List.getElem_toArray, List.getElem_cons_succ, List.getElem_cons_zero])
  go_simp
  obtain ⟨w8, hw8⟩ : ∃ w8, w7.setCell ⟨sb, 0, none⟩ (.bool X.some) = w8 := ⟨_, rfl⟩
  have t8 : turned w7 w8 [sb] := hw8 ▸ turned_set (turned_refl _ _) (by simp) _
  have S8 := Lib.hid (show obj w8 sb 4 [.bool X.some] from hw8 ▸ S7.out.set 0 _)
  rw [hw8]
  have D8 := Lib.hid (D7.out.past t8 (fun e => (show obj w7 db 34 [.int .u32 0, .int .u16 X.s, .int .u16 X.n, .bool X.u, .bool false, .bool X.some, (.slice da X.B.length dc)] from D7.out).ne S7.out (by decide) (List.mem_singleton.1 e)))
  have I8 := Lib.hid (I7.out.past t8 (fun e => I7.out.ne S7.out (by decide) (List.mem_singleton.1 e)))
  clear x0 y0 hw8
  refine HKK.out.out _ _ ⟨D8.out, I8.out, S8.out⟩ (fun hH8 => ?_)
  clear HKK K
  (try simp only [List.getElem_toArray, List.getElem_cons_succ, List.getElem_cons_zero, Act.put, List.setIfInBounds_toArray, List.set_cons_zero, List.set_cons_succ])
  refine wpAnyH_done (by kernel_rfl) ?_ _
  have t38 : turned w3 w8 [db, ib, sb] := turned_trans (turned_drew _ _) (turned_trans (turned_trans (turned_more t6 (by simp)) (turned_more t7 (by simp))) (turned_more t8 (by simp)))
  have T38 := Lib.hid t38
  have i0 := I8.out.cell 0 rfl
  have s0 := S8.out.cell 0 rfl
  clear hD hH hH6 hH7 hH8 t6 t7 t8 t38 D6 D7 I6 I7 S6 S7
  (try simp only [Exit.inBlock, Exit.then])
  refine ‹∀ (a : Act) (w : World), Code.wp Try.prog Code.ret _ a w → _› _ _ ?_
  refine wp_ret ?_
  refine bodyPost_ret (results_cells3 rfl _ _ db ib sb 34 #[.int .u32 0, .int .u16 X.s, .int .u16 X.n, .bool X.u, .bool false, .bool X.some, (.slice da X.B.length dc)] (0, 0) _ rfl rfl rfl ?_ Try.underlying34 rfl (by kernel_rfl) (.int .i64 X.id) (.bool X.some) ?_ ?_) rfl ?_
  · exact D8.out
  · go_simp
  · go_simp
  · have hnew : ∀ q, q ∈ [db, ib, sb] → w.heap.size ≤ q := fun q hq => HGE.out q (by simp at hq ⊢; omega)
    have hR : ∀ q, (Value.slice da X.B.length dc).ownBlock = some q → q ∉ [db, ib, sb] := fun q hq e => by
      have r := B3.out.2.2.2.2.2.1
      simp only [List.mem_cons, List.not_mem_nil, or_false] at e
      rcases e with rfl | rfl | rfl
      · exact row_ne r B3.out.2.2.1 (by decide) hq
      · exact row_ne r B3.out.2.2.2.1 (by decide) hq
      · exact row_ne r B3.out.2.2.2.2.1 (by decide) hq
    have hsub : ∀ q, q ∈ foot b (.slice a1 (kept now Z).length c1) sv (kept now Z) → q ∈ foot b (.slice va Z.length vc) sv Z := kept_foot HV1.out
    refine ⟨(.slice da X.B.length dc), rfl, row_past B3.out.2.2.2.2.2.1 T38.out hR, ⟨_, ?_, hsub⟩, ?_⟩
    · have hq := H3.out.past T38.out (fun q hq e => by have h1 := HBF.out q hq; have h2 := hnew q e; omega)
      have e : S.expire now = { ({ S with L := S.L.filter (fun x => !x.goes now) } : QS) with used := freed S.used X.gone } := by unfold QS.expire; rw [HX.out]
      rw [e]
      exact hq
    · have t01 := turned_narrow (M := foot b (.slice va Z.length vc) sv Z) (turned_trans (turned_more TA.out (by simp)) T1.out) (fun q hq => by
        rcases List.mem_append.1 hq with h | h
        · exact .inr (HGE.out q h)
        · exact .inl (by simp only [foot, List.mem_cons, List.mem_append]; exact .inr (.inl h)))
      have t02 := turned_trans t01 (turned_more T2.out (fun q hq => by rw [List.mem_singleton.1 hq]; exact foot_b _ _ _ _))
      have t03 := turned_trans t02 (turned_more T3.out hsub)
      exact turned_narrow (turned_trans (turned_more t03 (fun q hq => List.mem_append_left [db, ib, sb] hq)) (turned_more T38.out (fun q hq => List.mem_append_right _ hq))) (fun q hq => by
        rcases List.mem_append.1 hq with h | h
        · exact .inl h
        · exact .inr (hnew q h))
end Go.Proofs.Ytibnjakiagcopaa
