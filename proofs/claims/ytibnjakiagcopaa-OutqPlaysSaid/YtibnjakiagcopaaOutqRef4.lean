/- The document's Put: what is taken. In work. Conditions: the queue lies in memory. -/
import Derived.Test.YtibnjakiagcopaaOutqRef5
namespace Go.Proofs.Ytibnjakiagcopaa
open Go.RowKit Go.Deep
set_option linter.unusedVariables false
set_option linter.unusedSimpArgs false

theorem infoY : (Try.prog.info? 78).map (fun i => (i.zero, i.size, i.bytes)) = some (some (.agg #[.int .u16 0, .bool false, .slice none 0 0, .int .i64 0, .int .i64 0, .int .i64 0, .int .u16 0]), 7, 64) := by kernel_rfl
set_option maxRecDepth 100000 in
set_option maxHeartbeats 2000000 in
theorem rput (b : Nat) (G : List Nat) (S : QS) (n : Nat) (s : Int) (o : Bool) (mv : Value) (B : List Int) (un : Int) (w : World) (h : refIs w b G S) (hk : S.ok n) (hn : n ≤ 1000000) (hv : LiesB w mv B) (hs : 0 ≤ s ∧ s < 65536) (hu : un ≤ 9223372036854775807) (he : S.err s B.length un = 0) :
    Calls Try.prog 32 #[.pointer (some ⟨b, 0, none⟩), .agg #[.int .u16 s, .bool o, mv], .int .i64 un] w fun e w' => e = .returned (.tuple #[.int .i64 S.many, .int .i64 0]) ∧ (∃ G', refIs w' b G' (S.put s o B un) ∧ grewFoot w G G') ∧ turned w w' G := by
  obtain ⟨g1, g2, g3, g4, g5⟩ := err_zero he
  obtain ⟨v, sv, Z, rfl, h1, h2, h3, h4, h5⟩ := h
  obtain ⟨i0, hi0, hz0, hz1, hz2⟩ := info_parts infoB
  obtain ⟨a, cap, rfl, hc1, hc2⟩ := hv.1.form
  obtain ⟨va, vc, rfl, hvc1, hvc2, _⟩ := h2.form
  have h3' := h3
  obtain ⟨a2, cap2, rfl, hc3, hc4, _⟩ := row_form h3'
  have tM := turned_alloc (turned_refl w []) (.cells #[.int .u16 s, .bool o, .slice a B.length cap] 31)
  have o1 := h1.past tM (by simp)
  have oM := obj.new w 31 [.int .u16 s, .bool o, .slice a B.length cap]
  have c2 := o1.cell 2 rfl
  have c3 := o1.cell 3 rfl
  have c4 := o1.cell 4 rfl
  have m0 := oM.cell 0 rfl
  have m2 := oM.cell 2 rfl
  have r1 := hk.r1
  have u0 := hk.u0
  have u1 := hk.u1
  have k1 := hk.k1
  have s1 : IntKind.i64.wrap s = s := IntWalk.i64_in _ (by omega)
  have s2 : IntKind.i64.wrap (S.used + (B.length : Int)) = S.used + (B.length : Int) := IntWalk.i64_in _ (by omega)
  have d1 : decide (un < 0) = false := decide_eq_false (by omega)
  have d2 : decide ((S.ssn.length : Int) ≤ s) = false := decide_eq_false (by omega)
  have d3 : ((B.length : Int) == 0) = false := beq_eq_false_iff_ne.2 (by omega)
  have d4 : decide (S.room < (B.length : Int)) = false := decide_eq_false (by omega)
  have d5 : decide (S.room < S.used + (B.length : Int)) = false := decide_eq_false (by omega)
  have HV := Lib.hid hv
  have TM := Lib.hid tM
  have O1 := Lib.hid o1
  have OM := Lib.hid oM
  have H2 := Lib.hid h2
  have H3 := Lib.hid h3
  have H4 := Lib.hid h4
  have H5 := Lib.hid h5
  have HK := Lib.hid hk
  clear h1 h2 h3 h3' h4 h5 hv hk tM o1 oM he
  go_enter Try.func32, Try.ntmps32
  go_wp2_with fail
  go_quiet (fail)
  go_wp2_with fail
  go_quiet (fail)
  go_wp2_with fail
  go_quiet (fail)
  go_upto_region 11 with (fail)
  generalize hq : World.drewN _ _ = wq
  have tq : turned (w.alloc (.cells #[.int .u16 s, .bool o, .slice a B.length cap] 31)) wq [] := hq ▸ turned_drewN' _ (turned_drewN' _ (turned_drewN' _ (turned_refl _ _)))
  have te := turned_alloc (turned_refl wq []) (.cells #[] 5)
  have PM := Lib.hid (OM.out.past tq (by simp))
  have e2 := (PM.out.past te (by simp)).cell 2 rfl
  have HW := Lib.hid (World.ownsRow_lit (base := w.heap.size) (e := 5) (size := 1) wq #[] 0 (by have h1 := TM.out.2.2.2.1; have h2 := tq.2.2.2.1; omega) (by decide) rfl)
  have TE := Lib.hid te
  have TQ := Lib.hid tq
  have hl4 : B.length ≤ 1048576 := by omega
  clear hq te tq c2 c3 c4 m0 m2 d1 d2 d3 d4 d5
  go_wp2_with (first | (at_builtin; go_loud (refine wpList_append_lies' _ rfl _ _ 29 rfl w.heap.size 5 i0 (.int .u8 0) 1 1 Try.underlying29 hi0 hz0 hz1 hz2 rfl (by decide) (.slice (some ⟨wq.heap.size, 0, none⟩) 0 0) 0 [] rfl HW.out (.slice a B.length cap) B.length (flat cB B) rfl ((HV.out.1.none_ TM.out).none_ (turned_trans TQ.out TE.out)) (flat_one cB_one B) (by unfold maxLen; omega) (by omega) (by have h1 := TM.out.2.2.2.1; have h2 := TQ.out.2.2.2.1; have h3 := TE.out.2.2.2.1; omega) ?_; intro v' wA ha hg hl'; rw [Nat.zero_add, List.nil_append] at ha; obtain ⟨ra, rc, rfl, _, _, hra⟩ := row_form ha; have hlo : ∀ k, k < wq.heap.size → some k ≠ (Value.slice (some ⟨wq.heap.size, 0, none⟩) 0 0).ownBlock := fun k hk e => (by simp [Value.ownBlock] at e; omega); have pm := (PM.out.past TE.out (by simp)).kept hg (hlo _ PM.out.lt); have x2 := pm.cell 2 rfl; have y2 := pm.free 2; have QM := Lib.hid pm; have HA := Lib.hid ha; have TA := Lib.hid (turned_new TE.out hg (fun k e => by simp [Value.ownBlock] at e; omega)); clear ha hg hl' pm hra hlo)) | fail)
  -- REGION 12
  obtain ⟨w2, hw2⟩ : ∃ w2, wA.setCell ⟨w.heap.size, 2, none⟩ (.slice ra B.length rc) = w2 := ⟨_, rfl⟩
  have t12 : turned wA w2 [w.heap.size] := hw2 ▸ turned_set (turned_refl wA _) (List.mem_singleton.2 rfl) _
  have M2 := Lib.hid (show obj w2 w.heap.size 31 [.int .u16 s, .bool o, .slice ra B.length rc] from hw2 ▸ QM.out.set 2 _)
  rw [hw2]
  obtain ⟨wd, hwd⟩ : ∃ wd, wd = w2.drew := ⟨_, rfl⟩
  have t2d : turned w2 wd [] := hwd ▸ turned_drew w2 []
  have tqd : turned w wd [] := turned_narrow (turned_trans (turned_more (turned_trans (turned_trans TM.out TQ.out) TA.out) (by simp)) (turned_trans t12 (turned_more t2d (by simp)))) (fun k hk => .inr (by rw [List.mem_singleton.1 hk]; exact Nat.le_refl _))
  have q1 := O1.out.past (turned_trans TQ.out TA.out) (by simp)
  have q1d : obj wd b 76 _ := (q1.past t12 (fun e => q1.ne QM.out (by decide) (List.mem_singleton.1 e))).past t2d (by simp)
  have qm := M2.out.past t2d (by simp)
  have e0 := q1d.cell 0 rfl
  have e1 := q1d.cell 1 rfl
  have b0 := qm.cell 0 rfl
  have b1 := qm.cell 1 rfl
  have b2 := qm.cell 2 rfl
  have hS0 : PutS b w.heap.size (.slice va Z.length vc) S.many s o (.slice ra B.length rc) wd := ⟨e0, e1, b0, b1, b2⟩
  have TQD := Lib.hid tqd
  have Q1D := Lib.hid q1d
  have QMD := Lib.hid qm
  have HWD := Lib.hid hwd
  have ra0 := row_past HA.out t12 (fun q hq e => row_ne HA.out QM.out (by decide) (by rw [hq, List.mem_singleton.1 e]))
  have RAD := Lib.hid (row_past ra0 t2d (by simp))
  clear hw2 t12 t2d tqd q1 q1d qm hwd ra0 x2 y2 e2 e0 e1 b0 b1 b2
  refine region_till (PutS b w.heap.size (.slice va Z.length vc) S.many s o (.slice ra B.length rc)) 16 (by kernel_rfl) wd HWD.out hS0 ?_
  refine till_take (i := 0) (v := ?_) rfl (by kernel_rfl) (by kernel_rfl) (by kernel_rfl) (by kernel_rfl) (fun _ _ _ h => h) (Or.inl ⟨by rfl, ?_⟩) (by assumption) ?_
  rotate_left
  · intro wz hSw
    obtain ⟨z0, z1, z2, z3, z4⟩ := hSw
    go_simp
    (try with_reducible rfl)
  (try simp only [List.getElem_toArray, List.getElem_cons_succ, List.getElem_cons_zero, Act.put, List.setIfInBounds_toArray, List.set_cons_zero, List.set_cons_succ])
  refine till_take (i := 1) (v := ?_) rfl (by kernel_rfl) (by kernel_rfl) (by kernel_rfl) (by kernel_rfl) (fun _ _ _ h => h) (Or.inl ⟨by rfl, ?_⟩) (by assumption) ?_
  rotate_left
  · intro wz hSw
    obtain ⟨z0, z1, z2, z3, z4⟩ := hSw
    go_simp
    (try with_reducible rfl)
  (try simp only [List.getElem_toArray, List.getElem_cons_succ, List.getElem_cons_zero, Act.put, List.setIfInBounds_toArray, List.set_cons_zero, List.set_cons_succ])
  refine till_take (i := 2) (v := ?_) rfl (by kernel_rfl) (by kernel_rfl) (by kernel_rfl) (by kernel_rfl) (fun _ _ _ h => h) (Or.inl ⟨by rfl, ?_⟩) (by assumption) ?_
  rotate_left
  · intro wz hSw
    obtain ⟨z0, z1, z2, z3, z4⟩ := hSw
    go_simp
    (try with_reducible rfl)
  (try simp only [List.getElem_toArray, List.getElem_cons_succ, List.getElem_cons_zero, Act.put, List.setIfInBounds_toArray, List.set_cons_zero, List.set_cons_succ])
  refine till_take (i := 3) (v := ?_) rfl (by kernel_rfl) (by kernel_rfl) (by kernel_rfl) (by kernel_rfl) (fun _ _ _ h => h) (Or.inl ⟨by rfl, ?_⟩) (by assumption) ?_
  rotate_left
  · intro wz hSw
    obtain ⟨z0, z1, z2, z3, z4⟩ := hSw
    go_simp
    (try with_reducible rfl)
  (try simp only [List.getElem_toArray, List.getElem_cons_succ, List.getElem_cons_zero, Act.put, List.setIfInBounds_toArray, List.set_cons_zero, List.set_cons_succ])
  refine till_take (i := 4) (v := ?_) rfl (by kernel_rfl) (by kernel_rfl) (by kernel_rfl) (by kernel_rfl) (fun _ _ _ h => h) (Or.inl ⟨by rfl, ?_⟩) (by assumption) ?_
  rotate_left
  · intro wz hSw
    obtain ⟨z0, z1, z2, z3, z4⟩ := hSw
    go_simp
    (try with_reducible rfl)
  (try simp only [List.getElem_toArray, List.getElem_cons_succ, List.getElem_cons_zero, Act.put, List.setIfInBounds_toArray, List.set_cons_zero, List.set_cons_succ])
  refine till_take (i := 5) (v := ?_) rfl (by kernel_rfl) (by kernel_rfl) (by kernel_rfl) (by kernel_rfl) (fun _ _ _ h => h) (Or.inl ⟨by rfl, ?_⟩) (by assumption) ?_
  rotate_left
  · intro wz hSw
    obtain ⟨z0, z1, z2, z3, z4⟩ := hSw
    go_simp
    (try with_reducible rfl)
  (try simp only [List.getElem_toArray, List.getElem_cons_succ, List.getElem_cons_zero, Act.put, List.setIfInBounds_toArray, List.set_cons_zero, List.set_cons_succ])
  refine till_take (i := 6) (v := ?_) rfl (by kernel_rfl) (by kernel_rfl) (by kernel_rfl) (by kernel_rfl) (fun _ _ _ h => h) (Or.inl ⟨by rfl, ?_⟩) (by assumption) ?_
  rotate_left
  · intro wz hSw
    obtain ⟨z0, z1, z2, z3, z4⟩ := hSw
    go_simp
    (try with_reducible rfl)
  (try simp only [List.getElem_toArray, List.getElem_cons_succ, List.getElem_cons_zero, Act.put, List.setIfInBounds_toArray, List.set_cons_zero, List.set_cons_succ])
  refine till_take (i := 7) (v := ?_) rfl (by kernel_rfl) (by kernel_rfl) (by kernel_rfl) (by kernel_rfl) (fun _ _ _ h => h) (Or.inl ⟨by rfl, ?_⟩) (by assumption) ?_
  rotate_left
  · intro wz hSw
    obtain ⟨z0, z1, z2, z3, z4⟩ := hSw
    go_simp
    (try with_reducible rfl)
  (try simp only [List.getElem_toArray, List.getElem_cons_succ, List.getElem_cons_zero, Act.put, List.setIfInBounds_toArray, List.set_cons_zero, List.set_cons_succ])
  refine till_take (i := 8) (v := ?_) rfl (by kernel_rfl) (by kernel_rfl) (by kernel_rfl) (by kernel_rfl) (fun _ _ _ h => h) (Or.inl ⟨by rfl, ?_⟩) (by assumption) ?_
  rotate_left
  · intro wz hSw
    obtain ⟨z0, z1, z2, z3, z4⟩ := hSw
    go_simp
    (try with_reducible rfl)
  (try simp only [List.getElem_toArray, List.getElem_cons_succ, List.getElem_cons_zero, Act.put, List.setIfInBounds_toArray, List.set_cons_zero, List.set_cons_succ])
  refine till_take (i := 9) (v := ?_) rfl (by kernel_rfl) (by kernel_rfl) (by kernel_rfl) (by kernel_rfl) (fun _ _ _ h => h) (Or.inl ⟨by rfl, ?_⟩) (by assumption) ?_
  rotate_left
  · intro wz hSw
    obtain ⟨z0, z1, z2, z3, z4⟩ := hSw
    go_simp
    (try with_reducible rfl)
  (try simp only [List.getElem_toArray, List.getElem_cons_succ, List.getElem_cons_zero, Act.put, List.setIfInBounds_toArray, List.set_cons_zero, List.set_cons_succ])
  refine till_take (i := 10) (v := ?_) rfl (by kernel_rfl) (by kernel_rfl) (by kernel_rfl) (by kernel_rfl) (fun _ _ _ h => h) (Or.inl ⟨by rfl, ?_⟩) (by assumption) ?_
  rotate_left
  · intro wz hSw
    obtain ⟨z0, z1, z2, z3, z4⟩ := hSw
    go_simp
    (try with_reducible rfl)
  (try simp only [List.getElem_toArray, List.getElem_cons_succ, List.getElem_cons_zero, Act.put, List.setIfInBounds_toArray, List.set_cons_zero, List.set_cons_succ])
  refine till_take (i := 11) (v := ?_) rfl (by kernel_rfl) (by kernel_rfl) (by kernel_rfl) (by kernel_rfl) (fun _ _ _ h => h) (Or.inl ⟨by rfl, ?_⟩) (by assumption) ?_
  rotate_left
  · intro wz hSw
    obtain ⟨z0, z1, z2, z3, z4⟩ := hSw
    go_simp
    (try with_reducible rfl)
  (try simp only [List.getElem_toArray, List.getElem_cons_succ, List.getElem_cons_zero, Act.put, List.setIfInBounds_toArray, List.set_cons_zero, List.set_cons_succ])
  have tI := turned_alloc (turned_refl wd []) (.cells #[.int .u16 s, .bool o, .slice ra B.length rc, .int .i64 S.many, .int .i64 un, .int .i64 0, .int .u16 0] 78)
  have oI := obj.new wd 78 [.int .u16 s, .bool o, .slice ra B.length rc, .int .i64 S.many, .int .i64 un, .int .i64 0, .int .u16 0]
  have OI := Lib.hid oI
  have TI := Lib.hid tI
  clear oI tI
  refine till_one (i := 12) (by kernel_rfl) rfl (fun K hK => ?_)
  have HKK := Lib.hid hK
  clear hK
  (try simp only [List.getElem_toArray, List.getElem_cons_succ, List.getElem_cons_zero])
  go_simp
  generalize hwr : wd.alloc _ = wr at OI TI ⊢
  clear hwr
  have n1 := Q1D.out.past TI.out (by simp)
  have nm := QMD.out.past TI.out (by simp)
  have hS1 : PutS b w.heap.size (.slice va Z.length vc) S.many s o (.slice ra B.length rc) wr := ⟨n1.cell 0 rfl, n1.cell 1 rfl, nm.cell 0 rfl, nm.cell 1 rfl, nm.cell 2 rfl⟩
  refine HKK.out _ _ (fun _ => hS1) ?_
  clear HKK K
  (try simp only [List.getElem_toArray, List.getElem_cons_succ, List.getElem_cons_zero, Act.put, List.setIfInBounds_toArray, List.set_cons_zero, List.set_cons_succ])
  have n2 := H2.out.past (turned_trans TQD.out TI.out) (by simp)
  have hyl : Lies wr 7 (.slice (some ⟨wd.heap.size, 0, none⟩) 1 1) 1 (flat cY [((.slice ra B.length rc : Value), IT.new S s o B un)]) := Lies.lit OI.out rfl (by omega)
  have hone : ∀ u, u ∈ flat cY [((.slice ra B.length rc : Value), IT.new S s o B un)] → u.oneCell' = true := by
    intro u hu
    simp [flat, cY, cIT] at hu
    rcases hu with rfl | rfl | rfl | rfl | rfl | rfl | rfl <;> rfl
  have hzl : Z.length ≤ 1000000 := by have h1 := HK.out.l; rw [← H4.out, List.length_map] at h1; omega
  obtain ⟨i1, hi1, hy0, hy1, hy2⟩ := info_parts infoY
  refine till_one (i := 13) (o := { dst := some 66, op := Op.call { callee := Go.Callee.builtin Go.Builtin.append, args := #[Operand.tmp 57, Operand.tmp 65], argTypes := #[74, 74] }, type := 74, pos := "ref.go:71", after := #[{ on := 4, ground := Ground.data }, { on := 12, ground := Ground.data }], guard := none }) (by kernel_rfl) rfl (fun K hK => ?_)
  refine step_append_off wr rfl (.tmp 57) (.tmp 65) 74 rfl 0 78 i1 _ 7 64 Try.underlying74 hi1 hy0 hy1 hy2 rfl (by decide) (.slice va Z.length vc) Z.length _ rfl n2 _ 1 _ rfl hyl hone (by unfold maxLen; omega) (by omega) (Nat.zero_le _) ?_
  intro v' w3 ho hg hl
  obtain ⟨f1, f2, f3⟩ := rput_fin n1 n2 (row_past H3.out (turned_trans TQD.out TI.out) (by simp)) H4.out (fun z hz => row_past (H5.out z hz) (turned_trans TQD.out TI.out) (by simp)) (bv := .slice ra B.length rc) (x := IT.new S s o B un) (row_past (row_to RAD.out (Nat.zero_le _)) TI.out (by simp)) ho hg
  obtain ⟨va', vc', rfl, _⟩ := ho.form
  have n3m := nm.kept hg (fun e => n2.ne nm (by decide) e.symm)
  have hS3 : PutS b w.heap.size (.slice va Z.length vc) S.many s o (.slice ra B.length rc) w3 := ⟨f1.cell 0 rfl, f1.cell 1 rfl, n3m.cell 0 rfl, n3m.cell 1 rfl, n3m.cell 2 rfl⟩
  refine hK _ _ (fun _ => hS3) ?_
  clear hK K
  (try simp only [List.getElem_toArray, List.getElem_cons_succ, List.getElem_cons_zero, Act.put, List.setIfInBounds_toArray, List.set_cons_zero, List.set_cons_succ])
  have F1 := Lib.hid f1
  have F2 := Lib.hid f2
  have F3 := Lib.hid f3
  have HG := Lib.hid hg
  have HL := Lib.hid hl
  have HO := Lib.hid ho
  have NM := Lib.hid n3m
  clear f1 f2 f3 hg hl ho n3m n1 nm n2 hyl hone
  refine till_one (i := 14) (by kernel_rfl) rfl (fun K hK => ?_)
  have HKK := Lib.hid hK
  clear hK
  (try simp only [List.getElem_toArray, List.getElem_cons_succ, List.getElem_cons_zero])
  go_simp
  refine HKK.out _ _ (fun _ => hS3) ?_
  clear HKK K
  (try simp only [List.getElem_toArray, List.getElem_cons_succ, List.getElem_cons_zero, Act.put, List.setIfInBounds_toArray, List.set_cons_zero, List.set_cons_succ])
  refine till_one (i := 15) (by kernel_rfl) rfl (fun K hK => ?_)
  have HKK := Lib.hid hK
  clear hK
  (try simp only [List.getElem_toArray, List.getElem_cons_succ, List.getElem_cons_zero])
  go_simp
  refine HKK.out _ _ (fun _ => hS3) ?_
  clear HKK K
  (try simp only [List.getElem_toArray, List.getElem_cons_succ, List.getElem_cons_zero, Act.put, List.setIfInBounds_toArray, List.set_cons_zero, List.set_cons_succ])
  have x0 := F1.out.cell 0 rfl
  have y0 := F1.out.free 0
  refine till_one (i := 16) (by kernel_rfl) rfl (fun K hK => ?_)
  have HKK := Lib.hid hK
  clear hK
  (try simp only [List.getElem_toArray, List.getElem_cons_succ, List.getElem_cons_zero])
  go_simp
  refine HKK.out _ _ (fun h => absurd rfl h) ?_
  clear HKK K
  (try simp only [List.getElem_toArray, List.getElem_cons_succ, List.getElem_cons_zero, Act.put, List.setIfInBounds_toArray, List.set_cons_zero, List.set_cons_succ])
  refine till_done (by kernel_rfl) ?_ _
  obtain ⟨w4, hw4⟩ : ∃ w4, w3.setCell ⟨b, 0, none⟩ (.slice va' (Z.length + 1) vc') = w4 := ⟨_, rfl⟩
  have A4 := F2.out
  have T4 := F3.out
  have m4 := NM.out.setOther (a := ⟨b, 0, none⟩) (fun e => NM.out.ne F1.out (by decide) e) (.slice va' (Z.length + 1) vc')
  rw [hw4] at A4 T4 m4 ⊢
  obtain ⟨wq2, hwq2⟩ : ∃ wq2, wq2 = w4.drew := ⟨_, rfl⟩
  have A5 := hwq2 ▸ A4.past (turned_drew w4 []) (by simp)
  have m5 : obj wq2 w.heap.size 31 [.int .u16 s, .bool o, .slice ra B.length rc] := hwq2 ▸ m4
  obtain ⟨pv, psv, po⟩ := A5.used
  have c1 : wq2.cell? ⟨b, 1, none⟩ = some (.int .i64 S.many) := po.cell 1 rfl
  have c3 : wq2.cell? ⟨b, 3, none⟩ = some (.int .i64 S.used) := po.cell 3 rfl
  have b2 := m5.cell 2 rfl
  have f1 := po.free 1
  have f3 := po.free 3
  have hm0 := HK.out.m0
  have hm1 := HK.out.m1
  have s4 : IntKind.i64.wrap (S.many + 1) = S.many + 1 := IntWalk.i64_in _ (by omega)
  have s5 : IntKind.i64.wrap (S.many + 1 - 1) = S.many := by rw [IntWalk.i64_in _ (by omega)]; omega
  have HQ2 := Lib.hid hwq2
  have A6 := Lib.hid A5
  have T6 := Lib.hid T4
  clear A4 T4 m4 A5 m5 po hwq2 hw4 x0 y0
  go_wp2_with fail
  refine region_tail 9 (by kernel_rfl) (by kernel_rfl) wq2 HQ2.out ?_
  simp only [List.take_succ_cons, List.take_zero, List.drop_succ_cons, List.drop_zero]
  iterate 9 still_step
  refine wpStill_nil ?_
  go_wp2_with fail
  go_ret2
  obtain ⟨U1, U2⟩ := A6.out.setUsed (S.used + B.length) (S.used + B.length) rfl
  obtain ⟨V1, V2⟩ := U1.setMany (S.many + 1) (S.many + 1) rfl
  have G : grewFoot w (rfoot b (.slice va Z.length vc) (.slice a2 S.ssn.length cap2) Z) (rfoot b (.slice va' (Z.length + 1) vc') (.slice a2 S.ssn.length cap2) (Z ++ [(.slice ra B.length rc, IT.new S s o B un)])) := by
    refine rfoot_grew (HL.out.imp id (fun h k e => ?_)) (fun k e => ?_)
    · have h1 := h k e
      have h2 := TQD.out.2.2.2.1
      have h3 := TI.out.2.2.2.1
      omega
    · exact (row_lt0 RAD.out k e).1
  have t0 : turned w wq2 (rfoot b (.slice va Z.length vc) (.slice a2 S.ssn.length cap2) Z) := HQ2.out ▸ turned_drew' (turned_trans (turned_more (turned_trans TQD.out TI.out) (by simp)) T6.out)
  exact ⟨rfl, ⟨_, V1, G⟩, turned_after (turned_after t0 U2 G) V2 G⟩
end Go.Proofs.Ytibnjakiagcopaa
