/- A message is taken. Conditions: the queue lies in memory and has room. -/
import Derived.Test.YtibnjakiagcopaaOutqPut
import Derived.Test.YtibnjakiagcopaaRound
namespace Go.Proofs.Ytibnjakiagcopaa
open Go.RowKit Go.Deep
set_option linter.unusedVariables false
set_option linter.unusedSimpArgs false

theorem row_to {w : World} {base b2 : Nat} {e : TypeId} {sz n : Nat} {v : Value} {xs : List Value} (h : w.ownsRow base e sz v n xs) (hb : b2 ≤ base) : w.ownsRow b2 e sz v n xs := by
  refine ⟨h.1, ?_⟩
  rcases h.2 with k | ⟨g1, cap, cur, rfl, hg, r⟩
  · exact .inl k
  · exact .inr ⟨g1, cap, cur, rfl, by omega, r⟩
section
variable {P : Program} {ops : Array Oper} {Q : Exit → Act → World → Prop}
/-- A region that draws its order, whose last operation alone ends what S says. -/
theorem region_till {id : Nat} {a : Act} {w : World} (S : World → Prop) (last : Nat) (hm : P.follows .mixedOrders = true) (wd : World) (hwd : wd = w.drew) (hS : S wd)
    (h : wpTill P .any ops Q S last ops.size (Array.replicate ops.size false) a wd) : (Code.region id ops true).wp P Q a w := by
  subst hwd
  exact wp_region_any hm (any_of_till _ _ _ _ h)
end
/-- The cells that the list's growth reads. -/
def PutS (b m : Nat) (v : Value) (many s : Int) (o : Bool) (mv : Value) (w : World) : Prop := w.cell? ⟨b, 0, none⟩ = some v ∧ w.cell? ⟨b, 1, none⟩ = some (.int .i64 many) ∧ w.cell? ⟨m, 0, none⟩ = some (.int .u16 s) ∧ w.cell? ⟨m, 1, none⟩ = some (.bool o) ∧ w.cell? ⟨m, 2, none⟩ = some mv
def grewFoot (w : World) (F F' : List Nat) : Prop := ∀ k, k ∈ F' → k ∈ F ∨ w.heap.size ≤ k
theorem row_lt0 {w : World} {base : Nat} {e : TypeId} {sz n : Nat} {v : Value} {xs : List Value} (h : w.ownsRow base e sz v n xs) : ∀ g, v.ownBlock = some g → base ≤ g ∧ g < w.heap.size := by
  rintro g hg
  rcases h.2 with ⟨rfl, _⟩ | ⟨g1, cap, cur, rfl, hb, hgb, _⟩
  · simp [Value.ownBlock] at hg
  · simp [Value.ownBlock] at hg
    subst hg
    exact ⟨hb, (Array.getElem?_eq_some_iff.1 hgb).1⟩
theorem turned_old {a b : World} {L M : List Nat} (h : turned a b L) (hL : ∀ k, k ∈ L → a.heap.size ≤ k) : turned a b M :=
  ⟨h.1, h.2.1, h.2.2.1, h.2.2.2.1, fun k hk _ => h.2.2.2.2 k hk (fun e => by have := hL k e; omega)⟩
theorem turned_after {a b c : World} {F G : List Nat} (h : turned a b F) (k : turned b c G) (g : grewFoot a F G) : turned a c F :=
  ⟨k.1.trans h.1, k.2.1.trans h.2.1, k.2.2.1.trans h.2.2.1, Nat.le_trans h.2.2.2.1 k.2.2.2.1, fun i hi hF => (k.2.2.2.2 i (Nat.lt_of_lt_of_le hi h.2.2.2.1) (fun e => by rcases g i e with q | q; exact hF q; omega)).trans (h.2.2.2.2 i hi hF)⟩
theorem off_ne_row {w : World} {b1 b2 : Nat} {e t : TypeId} {s1 s2 n m : Nat} {v u : Value} {xs ys : List Value} (h : offRow w b1 e s1 v n xs) (k : w.ownsRow b2 t s2 u m ys) (hne : e ≠ t) : ∀ g, v.ownBlock = some g → u.ownBlock ≠ some g := by
  intro g hg hu
  rcases k.2 with ⟨rfl, _⟩ | ⟨g2, cap, cur, rfl, _, hgb, _⟩
  · simp [Value.ownBlock] at hu
  · simp [Value.ownBlock] at hu
    subst hu
    exact h.ne (t := t) (cs := cur.toList) (b := g2) (by unfold obj; simpa using hgb) hne hg
theorem zfoot_app (Z : List ZT) (z : ZT) : zfoot (Z ++ [z]) = zfoot Z ++ (z.1 :: z.2.1.ownBlock.toList) := by simp [zfoot]
theorem foot_grew {w : World} {b g : Nat} {v v' sv bv : Value} {Z : List ZT} {x : IT} (h1 : v'.ownBlock = v.ownBlock ∨ ∀ k, v'.ownBlock = some k → w.heap.size ≤ k) (h2 : w.heap.size ≤ g) (h3 : ∀ k, bv.ownBlock = some k → w.heap.size ≤ k) : grewFoot w (foot b v sv Z) (foot b v' sv (Z ++ [(g, bv, x)])) := by
  intro k hk
  simp only [foot, zfoot_app, List.mem_cons, List.mem_append, Option.mem_toList] at hk ⊢
  rcases hk with rfl | hk | hk | hk | rfl | hk
  · exact .inl (.inl rfl)
  · rcases h1 with e | e
    · exact .inl (.inr (.inl (e ▸ hk)))
    · exact .inr (e k hk)
  · exact .inl (.inr (.inr (.inl hk)))
  · exact .inl (.inr (.inr (.inr hk)))
  · exact .inr h2
  · exact .inr (h3 k hk)
/-- The list's row has grown by an item, and the list's cell is written. -/
theorem put_fin {wr w3 : World} {b g : Nat} {v v' sv bv : Value} {Z : List ZT} {S : QS} {x : IT} (h1 : obj wr b 65 [v, .int .i64 S.many, .int .i64 S.room, .int .i64 S.used, sv]) (h2 : offRow wr 0 67 1 v Z.length (flat cP (Z.map (·.1)))) (h3 : wr.ownsRow 0 22 1 sv S.ssn.length (flat cN S.ssn)) (h4 : Z.map (·.2.2) = S.L) (h5 : ∀ z, z ∈ Z → itemIs wr z) (h6 : (Z.map (·.1)).Nodup)
    (hx : itemIs wr (g, bv, x)) (hgn : g ∉ Z.map (·.1)) (ho : offRow w3 0 67 1 v' (Z.length + 1) (flat cP (Z.map (·.1)) ++ cP g)) (hg : wr.grownBy w3 v.ownBlock) :
    obj w3 b 65 [v, .int .i64 S.many, .int .i64 S.room, .int .i64 S.used, sv] ∧ outIs (w3.setCell ⟨b, 0, none⟩ v') b (foot b v' sv (Z ++ [(g, bv, x)])) { S with L := S.L ++ [x] } ∧ turned wr (w3.setCell ⟨b, 0, none⟩ v') (foot b v sv Z) := by
  have t3 : turned wr w3 v.ownBlock.toList := turned_grown (turned_refl _ _) hg (fun k e => .inl (by simp [e]))
  have hb : b ∉ v.ownBlock.toList := fun e => h2.ne h1 (by decide) (by simpa using e)
  have o3 := h1.past t3 hb
  have tS : turned w3 (w3.setCell ⟨b, 0, none⟩ v') [b] := turned_set (turned_refl _ _) (List.mem_singleton.2 rfl) _
  have i3 : ∀ z, itemIs wr z → itemIs w3 z := fun z hz => hz.past t3 (fun e => h2.ne hz.1 (by decide) (by simpa using e)) (fun k e hk => off_ne_row h2 hz.2 (by decide) k (by simpa using hk) e)
  have i4 : ∀ z, itemIs w3 z → itemIs (w3.setCell ⟨b, 0, none⟩ v') z := fun z hz => hz.past tS (fun e => hz.1.ne o3 (by decide) (List.mem_singleton.1 e)) (fun k e hk => row_ne hz.2 o3 (by decide) (by rw [e, List.mem_singleton.1 hk]))
  refine ⟨o3, ⟨v', sv, Z ++ [(g, bv, x)], rfl, o3.set 0 _, ?_, ?_, ?_, ?_, ?_⟩, turned_trans (turned_more t3 (fun k hk => ?_)) (turned_more tS (fun k hk => ?_))⟩
  · have ho' := ho.past tS (fun k e hk => ho.ne o3 (by decide) (by rw [e, List.mem_singleton.1 hk]))
    simpa [flat] using ho'
  · have := row_past h3 t3 (fun k e hk => off_ne_row h2 h3 (by decide) k (by simpa using hk) e)
    exact row_past this tS (fun k e hk => row_ne this o3 (by decide) (by rw [e, List.mem_singleton.1 hk]))
  · simp [h4]
  · intro z hz
    rcases List.mem_append.1 hz with hz | hz
    · exact i4 z (i3 z (h5 z hz))
    · rw [List.mem_singleton.1 hz]; exact i4 _ (i3 _ hx)
  · rw [List.map_append, List.nodup_append]
    refine ⟨h6, by simp, fun p hp q hq e => hgn ?_⟩
    simp at hq
    rw [← hq, ← e]
    exact hp
  · simp only [foot, List.mem_cons, List.mem_append]; exact .inr (.inl hk)
  · rw [List.mem_singleton.1 hk]; exact foot_b _ _ _ _
theorem outIs.setUsed {w : World} {b : Nat} {F : List Nat} {S : QS} (h : outIs w b F S) (u V : Int) (hV : V = u) : outIs (w.setCell ⟨b, 3, none⟩ (.int .i64 V)) b F { S with used := u } ∧ turned w (w.setCell ⟨b, 3, none⟩ (.int .i64 V)) F := by
  obtain ⟨v, sv, Z, rfl, h1, h2, h3, h4, h5, h6⟩ := h
  exact Go.Proofs.Ytibnjakiagcopaa.setUsed u V hV h1 h2 h3 h4 h5 h6
theorem outIs.setMany {w : World} {b : Nat} {F : List Nat} {S : QS} (h : outIs w b F S) (u V : Int) (hV : V = u) : outIs (w.setCell ⟨b, 1, none⟩ (.int .i64 V)) b F { S with many := u } ∧ turned w (w.setCell ⟨b, 1, none⟩ (.int .i64 V)) F := by
  obtain ⟨v, sv, Z, rfl, h1, h2, h3, h4, h5, h6⟩ := h
  subst hV
  have t : turned w (w.setCell ⟨b, 1, none⟩ (.int .i64 V)) [b] := turned_set (turned_refl _ _) (List.mem_singleton.2 rfl) _
  have n2 := h2.ne h1 (by decide)
  have n3 := row_ne h3 h1 (by decide)
  refine ⟨⟨v, sv, Z, rfl, h1.set 1 _, h2.past t (fun g e k => n2 ?_), row_past h3 t (fun g e k => n3 ?_), h4, fun z hz => (h5 z hz).past t (fun k => ?_) (fun g e k => row_ne (h5 z hz).2 h1 (by decide) ?_), h6⟩, turned_more t (fun k hk => ?_)⟩
  · rw [e, List.mem_singleton.1 k]
  · rw [e, List.mem_singleton.1 k]
  · exact (h5 z hz).1.ne h1 (by decide) (List.mem_singleton.1 k)
  · rw [e, List.mem_singleton.1 k]
  · rw [List.mem_singleton.1 hk]; exact foot_b _ _ _ _
set_option maxRecDepth 100000 in
set_option maxHeartbeats 4000000 in
theorem oput (b : Nat) (F : List Nat) (S : QS) (n : Nat) (s : Int) (o : Bool) (mv : Value) (B : List Int) (un : Int) (w : World) (h : outIs w b F S) (hk : S.ok n) (hn : n ≤ 1000000) (hv : LiesB w mv B) (hB : B.length ≤ 4000000) (hs : 0 ≤ s ∧ s < 65536) (hu : un ≤ 9223372036854775807) (he : S.err s B.length un = 0) :
    Calls Try.prog 10 #[.pointer (some ⟨b, 0, none⟩), .agg #[.int .u16 s, .bool o, mv], .int .i64 un] w fun e w' => e = .returned (.tuple #[.int .i64 S.many, .int .i64 0]) ∧ (∃ F', outIs w' b F' (S.put s o B un) ∧ grewFoot w F F') ∧ turned w w' F := by
  have hE := he
  unfold QS.err at hE
  have g1 : ¬ un < 0 := fun g => by rw [if_pos g] at hE; omega
  rw [if_neg g1] at hE
  have g2 : ¬ (S.ssn.length : Int) ≤ s := fun g => by rw [if_pos g] at hE; omega
  rw [if_neg g2] at hE
  have g3 : ¬ (B.length = 0 ∨ S.room < B.length) := fun g => by rw [if_pos g] at hE; omega
  rw [if_neg g3] at hE
  have g4 : ¬ S.room - S.used < B.length := fun g => by rw [if_pos g] at hE; omega
  clear hE
  obtain ⟨v, sv, Z, rfl, h1, h2, h3, h4, h5, h6⟩ := h
  obtain ⟨a, cap, rfl, hc1, hc2⟩ := hv.1.form
  obtain ⟨va, vc, rfl, hvc1, hvc2, _⟩ := h2.form
  have h3' := h3
  obtain ⟨a2, cap2, rfl, hc3, hc4, _⟩ := row_form h3'
  have o1 := h1.alloc (.cells #[.int .u16 s, .bool o, .slice a B.length cap] 31)
  have oM := obj.new w 31 [.int .u16 s, .bool o, .slice a B.length cap]
  have c2 := o1.cell 2 rfl
  have c3 := o1.cell 3 rfl
  have c4 := o1.cell 4 rfl
  have m0 := oM.cell 0 rfl
  have m2 := oM.cell 2 rfl
  have r1 := hk.r1
  have r0 := hk.r0
  have u0 := hk.u0
  have u1 := hk.u1
  have k1 := hk.k1
  have hZn : Z.length ≤ 1000000 := by have := hk.l; rw [← h4, List.length_map] at this; omega
  have s1 : IntKind.i64.wrap s = s := IntWalk.i64_in _ (by omega)
  have s2 : IntKind.i64.wrap (S.room - S.used) = S.room - S.used := IntWalk.i64_in _ (by omega)
  have d1 : decide (un < 0) = false := decide_eq_false g1
  have d2 : decide ((S.ssn.length : Int) ≤ s) = false := decide_eq_false g2
  have d3 : ((B.length : Int) == 0) = false := beq_eq_false_iff_ne.2 (by omega)
  have d4 : decide (S.room < (B.length : Int)) = false := decide_eq_false (by omega)
  have d5 : decide (S.room - S.used < (B.length : Int)) = false := decide_eq_false g4
  have T := Lib.hid (turned_alloc (turned_refl w []) (.cells #[.int .u16 s, .bool o, .slice a B.length cap] 31))
  have O1 := Lib.hid o1
  have OM := Lib.hid oM
  have HV := Lib.hid (hv.none_ T.out)
  have H2 := Lib.hid (h2.past T.out (by simp))
  have H3 := Lib.hid (row_past h3 T.out (by simp))
  have H4 := Lib.hid h4
  have H5 := Lib.hid h5
  have H6 := Lib.hid h6
  have HK := Lib.hid hk
  have HE := Lib.hid he
  clear h1 h2 h3 h3' h4 h5 h6 hv hk o1 oM he
  go_enter Try.func10, Try.ntmps10
  go_wp2_with fail
  go_quiet (fail)
  go_wp2_with fail
  go_quiet (fail)
  go_wp2_with fail
  go_quiet (fail)
  go_wp2_with fail
  refine (bclone _ B _ (HV.out.none_ (turned_drewN _ _ [])) hB).mono ?_
  rintro e w1 ⟨ba, bc, rfl, hrow, t1⟩
  have t01 : turned (w.alloc (.cells #[.int .u16 s, .bool o, .slice a B.length cap] 31)) w1 [] := turned_trans (turned_drewN _ _ []) t1
  have hws : w.heap.size < w1.heap.size := by have h1 := t01.2.2.2.1; have h2 := OM.out.lt; omega
  have hrow0 := row_to hrow (show w.heap.size ≤ _ by have h1 := T.out.2.2.2.1; exact h1)
  have M1 := Lib.hid (OM.out.past t01 (by simp))
  have f2 := M1.out.free 2
  have e2 := M1.out.cell 2 rfl
  have HR := Lib.hid hrow0
  have T01 := Lib.hid t01
  have P1 := Lib.hid (O1.out.past t01 (by simp))
  have P2 := Lib.hid (H2.out.past t01 (by simp))
  have P3 := Lib.hid (row_past H3.out t01 (by simp))
  clear hrow hrow0 t1 t01 c2 c3 c4 m0 m2 d1 d2 d3 d4 d5 s2
  go_wp2_with fail
  obtain ⟨w2, hw2⟩ : ∃ w2, w1.setCell ⟨w.heap.size, 2, none⟩ (.slice ba B.length bc) = w2 := ⟨_, rfl⟩
  have t12 : turned w1 w2 [w.heap.size] := hw2 ▸ turned_set (turned_refl w1 _) (List.mem_singleton.2 rfl) _
  have M2 := Lib.hid (show obj w2 w.heap.size 31 [.int .u16 s, .bool o, .slice ba B.length bc] from hw2 ▸ M1.out.set 2 _)
  rw [hw2]
  obtain ⟨wd, hwd⟩ : ∃ wd, wd = w2.drew := ⟨_, rfl⟩
  have t2d : turned w2 wd [] := hwd ▸ turned_drew w2 []
  have t1d : turned w1 wd [w.heap.size] := turned_trans t12 (turned_more t2d (by simp))
  have HWD := Lib.hid hwd
  have q1 := P1.out.past t1d (fun e => P1.out.ne M1.out (by decide) (List.mem_singleton.1 e))
  have q2 := P2.out.past t1d (fun k e hk => P2.out.ne M1.out (by decide) (by rw [e, List.mem_singleton.1 hk]))
  have q3 := row_past P3.out t1d (fun k e hk => row_ne P3.out M1.out (by decide) (by rw [e, List.mem_singleton.1 hk]))
  have qr := row_past HR.out t1d (fun k e hk => row_ne HR.out M1.out (by decide) (by rw [e, List.mem_singleton.1 hk]))
  have qm := M2.out.past t2d (by simp)
  have q5 : ∀ z, z ∈ Z → itemIs wd z := fun z hz => by
    have h := ((H5.out z hz).past (turned_trans T.out T01.out) (by simp) (by simp))
    exact h.past t1d (fun e => h.1.ne M1.out (by decide) (List.mem_singleton.1 e)) (fun k e hk => row_ne h.2 M1.out (by decide) (by rw [e, List.mem_singleton.1 hk]))
  have Q1 := Lib.hid q1
  have Q2 := Lib.hid q2
  have Q3 := Lib.hid q3
  have Q5 := Lib.hid q5
  have QR := Lib.hid qr
  have QM := Lib.hid qm
  have e0 := q1.cell 0 rfl
  have e1 := q1.cell 1 rfl
  have b0 := qm.cell 0 rfl
  have b1 := qm.cell 1 rfl
  have b2 := qm.cell 2 rfl
  have TW := Lib.hid (turned_trans (turned_more (turned_trans T.out T01.out) (by simp)) t1d)
  clear q1 q2 q3 q5 qr qm hwd t12 hw2 t2d t1d f2 e2
  -- TILL
  have hS0 : PutS b w.heap.size (.slice va Z.length vc) S.many s o (.slice ba B.length bc) wd := ⟨e0, e1, b0, b1, b2⟩
  refine region_till (PutS b w.heap.size (.slice va Z.length vc) S.many s o (.slice ba B.length bc)) 17 (by kernel_rfl) wd HWD.out hS0 ?_
  refine till_take (i := 0) (oi := { dst := some 57, op := Op.move (Operand.tmp 0), type := 23, pos := "outq.go:62", after := #[], guard := none }) (v := ?_) rfl (by kernel_rfl) (by kernel_rfl) (by kernel_rfl) (by kernel_rfl) (fun _ _ _ h => h) (Or.inl ⟨by rfl, ?_⟩) (by assumption) ?_
  rotate_left
  · intro wz hSw
    obtain ⟨z0, z1, z2, z3, z4⟩ := hSw
    go_simp
    (try with_reducible rfl)
  simp only [Act.put, List.setIfInBounds_toArray, List.set_cons_zero, List.set_cons_succ]
  refine till_take (i := 1) (oi := { dst := some 58, op := Op.move (Operand.tmp 0), type := 23, pos := "outq.go:62", after := #[], guard := none }) (v := ?_) rfl (by kernel_rfl) (by kernel_rfl) (by kernel_rfl) (by kernel_rfl) (fun _ _ _ h => h) (Or.inl ⟨by rfl, ?_⟩) (by assumption) ?_
  rotate_left
  · intro wz hSw
    obtain ⟨z0, z1, z2, z3, z4⟩ := hSw
    go_simp
    (try with_reducible rfl)
  simp only [Act.put, List.setIfInBounds_toArray, List.set_cons_zero, List.set_cons_succ]
  refine till_take (i := 2) (oi := { dst := some 59, op := Op.nilCheck (Operand.tmp 58), type := 0, pos := "outq.go:62", after := #[{ on := 1, ground := Ground.data }], guard := none }) (v := ?_) rfl (by kernel_rfl) (by kernel_rfl) (by kernel_rfl) (by kernel_rfl) (fun _ _ _ h => h) (Or.inl ⟨by rfl, ?_⟩) (by assumption) ?_
  rotate_left
  · intro wz hSw
    obtain ⟨z0, z1, z2, z3, z4⟩ := hSw
    go_simp
    (try with_reducible rfl)
  simp only [Act.put, List.setIfInBounds_toArray, List.set_cons_zero, List.set_cons_succ]
  refine till_take (i := 3) (oi := { dst := some 60, op := Op.fieldAddr 65 (Operand.tmp 59) 0, type := 0, pos := "outq.go:62", after := #[{ on := 2, ground := Ground.data }], guard := none }) (v := ?_) rfl (by kernel_rfl) (by kernel_rfl) (by kernel_rfl) (by kernel_rfl) (fun _ _ _ h => h) (Or.inl ⟨by rfl, ?_⟩) (by assumption) ?_
  rotate_left
  · intro wz hSw
    obtain ⟨z0, z1, z2, z3, z4⟩ := hSw
    go_simp
    (try with_reducible rfl)
  simp only [Act.put, List.setIfInBounds_toArray, List.set_cons_zero, List.set_cons_succ]
  refine till_take (i := 4) (oi := { dst := some 61, op := Op.load 63 (Operand.tmp 60), type := 63, pos := "outq.go:62", after := #[{ on := 3, ground := Ground.data }], guard := none }) (v := ?_) rfl (by kernel_rfl) (by kernel_rfl) (by kernel_rfl) (by kernel_rfl) (fun _ _ _ h => h) (Or.inl ⟨by rfl, ?_⟩) (by assumption) ?_
  rotate_left
  · intro wz hSw
    obtain ⟨z0, z1, z2, z3, z4⟩ := hSw
    go_simp
    (try with_reducible rfl)
  simp only [Act.put, List.setIfInBounds_toArray, List.set_cons_zero, List.set_cons_succ]
  refine till_take (i := 5) (oi := { dst := some 62, op := Op.load 31 (Operand.tmp 4), type := 31, pos := "outq.go:62", after := #[], guard := none }) (v := ?_) rfl (by kernel_rfl) (by kernel_rfl) (by kernel_rfl) (by kernel_rfl) (fun _ _ _ h => h) (Or.inl ⟨by rfl, ?_⟩) (by assumption) ?_
  rotate_left
  · intro wz hSw
    obtain ⟨z0, z1, z2, z3, z4⟩ := hSw
    go_simp
    (try with_reducible rfl)
  simp only [Act.put, List.setIfInBounds_toArray, List.set_cons_zero, List.set_cons_succ]
  refine till_take (i := 6) (oi := { dst := some 63, op := Op.move (Operand.tmp 0), type := 23, pos := "outq.go:62", after := #[], guard := none }) (v := ?_) rfl (by kernel_rfl) (by kernel_rfl) (by kernel_rfl) (by kernel_rfl) (fun _ _ _ h => h) (Or.inl ⟨by rfl, ?_⟩) (by assumption) ?_
  rotate_left
  · intro wz hSw
    obtain ⟨z0, z1, z2, z3, z4⟩ := hSw
    go_simp
    (try with_reducible rfl)
  simp only [Act.put, List.setIfInBounds_toArray, List.set_cons_zero, List.set_cons_succ]
  refine till_take (i := 7) (oi := { dst := some 64, op := Op.nilCheck (Operand.tmp 63), type := 0, pos := "outq.go:62", after := #[{ on := 6, ground := Ground.data }], guard := none }) (v := ?_) rfl (by kernel_rfl) (by kernel_rfl) (by kernel_rfl) (by kernel_rfl) (fun _ _ _ h => h) (Or.inl ⟨by rfl, ?_⟩) (by assumption) ?_
  rotate_left
  · intro wz hSw
    obtain ⟨z0, z1, z2, z3, z4⟩ := hSw
    go_simp
    (try with_reducible rfl)
  simp only [Act.put, List.setIfInBounds_toArray, List.set_cons_zero, List.set_cons_succ]
  refine till_take (i := 8) (oi := { dst := some 65, op := Op.fieldAddr 65 (Operand.tmp 64) 1, type := 0, pos := "outq.go:62", after := #[{ on := 7, ground := Ground.data }], guard := none }) (v := ?_) rfl (by kernel_rfl) (by kernel_rfl) (by kernel_rfl) (by kernel_rfl) (fun _ _ _ h => h) (Or.inl ⟨by rfl, ?_⟩) (by assumption) ?_
  rotate_left
  · intro wz hSw
    obtain ⟨z0, z1, z2, z3, z4⟩ := hSw
    go_simp
    (try with_reducible rfl)
  simp only [Act.put, List.setIfInBounds_toArray, List.set_cons_zero, List.set_cons_succ]
  refine till_take (i := 9) (oi := { dst := some 66, op := Op.load 3 (Operand.tmp 65), type := 3, pos := "outq.go:62", after := #[{ on := 8, ground := Ground.data }], guard := none }) (v := ?_) rfl (by kernel_rfl) (by kernel_rfl) (by kernel_rfl) (by kernel_rfl) (fun _ _ _ h => h) (Or.inl ⟨by rfl, ?_⟩) (by assumption) ?_
  rotate_left
  · intro wz hSw
    obtain ⟨z0, z1, z2, z3, z4⟩ := hSw
    go_simp
    (try with_reducible rfl)
  simp only [Act.put, List.setIfInBounds_toArray, List.set_cons_zero, List.set_cons_succ]
  refine till_take (i := 10) (oi := { dst := some 67, op := Op.move (Operand.tmp 2), type := 2, pos := "outq.go:62", after := #[], guard := none }) (v := ?_) rfl (by kernel_rfl) (by kernel_rfl) (by kernel_rfl) (by kernel_rfl) (fun _ _ _ h => h) (Or.inl ⟨by rfl, ?_⟩) (by assumption) ?_
  rotate_left
  · intro wz hSw
    obtain ⟨z0, z1, z2, z3, z4⟩ := hSw
    go_simp
    (try with_reducible rfl)
  simp only [Act.put, List.setIfInBounds_toArray, List.set_cons_zero, List.set_cons_succ]
  refine till_take (i := 11) (oi := { dst := some 68, op := Op.build 69 #[(0, Operand.tmp 62), (1, Operand.tmp 66), (2, Operand.tmp 67)], type := 69, pos := "outq.go:62", after := #[{ on := 5, ground := Ground.data }, { on := 9, ground := Ground.data }, { on := 10, ground := Ground.data }], guard := none }) (v := ?_) rfl (by kernel_rfl) (by kernel_rfl) (by kernel_rfl) (by kernel_rfl) (fun _ _ _ h => h) (Or.inl ⟨by rfl, ?_⟩) (by assumption) ?_
  rotate_left
  · intro wz hSw
    obtain ⟨z0, z1, z2, z3, z4⟩ := hSw
    go_simp
    (try with_reducible rfl)
  simp only [Act.put, List.setIfInBounds_toArray, List.set_cons_zero, List.set_cons_succ]
  have hI : obj (wd.alloc (.cells #[.int .u16 s, .bool o, .slice ba B.length bc, .int .i64 S.many, .int .i64 un, .int .i64 0, .int .u16 0] 69)) wd.heap.size 69 (cIT (.slice ba B.length bc) (IT.new S s o B un)) := obj.new _ _ _
  have tA : turned wd (wd.alloc (.cells #[.int .u16 s, .bool o, .slice ba B.length bc, .int .i64 S.many, .int .i64 un, .int .i64 0, .int .u16 0] 69)) [] := turned_alloc (turned_refl _ _) _
  refine till_one (i := 12) (o := { dst := some 69, op := Op.box 69 (Operand.tmp 68), type := 67, pos := "outq.go:62", after := #[{ on := 11, ground := Ground.data }], guard := none }) (by kernel_rfl) rfl (fun K hK => ?_)
  have HKK := Lib.hid hK
  have HI := Lib.hid hI
  have TA := Lib.hid tA
  clear hK hI tA
  go_simp
  have hI := HI.out
  have tA := TA.out
  generalize hwa : wd.alloc _ = wa at hI tA ⊢
  clear hwa HI TA
  have n1 := Q1.out.past tA (by simp)
  have nm := QM.out.past tA (by simp)
  have hS1 : PutS b w.heap.size (.slice va Z.length vc) S.many s o (.slice ba B.length bc) wa := ⟨n1.cell 0 rfl, n1.cell 1 rfl, nm.cell 0 rfl, nm.cell 1 rfl, nm.cell 2 rfl⟩
  refine HKK.out _ _ (fun _ => hS1) ?_
  clear HKK K
  (try simp only [Act.put, List.setIfInBounds_toArray, List.set_cons_zero, List.set_cons_succ])
  have tB : turned wa (wa.alloc (.cells #[.pointer (some ⟨wd.heap.size, 0, none⟩)] 67)) [] := turned_alloc (turned_refl _ _) _
  have hy : Lies (wa.alloc (.cells #[.pointer (some ⟨wd.heap.size, 0, none⟩)] 67)) 1 (.slice (some ⟨wa.heap.size, 0, none⟩) 1 1) 1 (cP wd.heap.size) := Lies.row (World.ownsRow_lit wa #[.pointer (some ⟨wd.heap.size, 0, none⟩)] 1 (Nat.le_refl _) (by decide) rfl)
  refine till_one (i := 13) (o := { dst := some 70, op := Op.buildSlice 63 1 #[(0, Operand.tmp 69)], type := 63, pos := "outq.go:62", after := #[{ on := 12, ground := Ground.data }], guard := none }) (by kernel_rfl) rfl (fun K hK => ?_)
  have HKK := Lib.hid hK
  have HY := Lib.hid hy
  have TB := Lib.hid tB
  clear hK hy tB
  go_simp
  have hy := HY.out
  have tB := TB.out
  generalize hwb : wa.alloc _ = wr at hy tB ⊢
  clear hwb HY TB
  have tR := turned_trans tA tB
  have n1 := Q1.out.past tR (by simp)
  have nm := QM.out.past tR (by simp)
  have n2 := Q2.out.past tR (by simp)
  have hS2 : PutS b w.heap.size (.slice va Z.length vc) S.many s o (.slice ba B.length bc) wr := ⟨n1.cell 0 rfl, n1.cell 1 rfl, nm.cell 0 rfl, nm.cell 1 rfl, nm.cell 2 rfl⟩
  refine HKK.out _ _ (fun _ => hS2) ?_
  clear HKK K
  (try simp only [Act.put, List.setIfInBounds_toArray, List.set_cons_zero, List.set_cons_succ])
  obtain ⟨i0, hi0, hz0, hz1, hz2⟩ := info_parts infoP
  refine till_one (i := 14) (o := { dst := some 71, op := Op.call { callee := Go.Callee.builtin Go.Builtin.append, args := #[Operand.tmp 61, Operand.tmp 70], argTypes := #[63, 63] }, type := 63, pos := "outq.go:62", after := #[{ on := 4, ground := Ground.data }, { on := 13, ground := Ground.data }], guard := none }) (by kernel_rfl) rfl (fun K hK => ?_)
  refine step_append_off wr rfl (.tmp 61) (.tmp 70) 63 rfl 0 67 i0 _ 1 8 Try.underlying63 hi0 hz0 hz1 hz2 rfl (by decide) (.slice va Z.length vc) Z.length _ rfl n2 _ 1 (cP wd.heap.size) rfl hy (cP_one _) (by unfold maxLen; omega) (by omega) (Nat.zero_le _) ?_
  intro v' w3 ho hg hl
  obtain ⟨f1, f2, f3⟩ := put_fin n1 n2 (row_past Q3.out tR (by simp)) H4.out (fun z hz => (Q5.out z hz).past tR (by simp) (by simp)) H6.out (x := IT.new S s o B un) (g := wd.heap.size) (bv := .slice ba B.length bc) ⟨hI.past tB (by simp), row_past (row_to QR.out (Nat.zero_le _)) tR (by simp)⟩ (fun e => by obtain ⟨z, hz, e⟩ := List.mem_map.1 e; have := (Q5.out z hz).1.lt; omega) ho hg
  obtain ⟨va', vc', rfl, _⟩ := ho.form
  have n3m := nm.kept hg (fun e => n2.ne nm (by decide) e.symm)
  have hS3 : PutS b w.heap.size (.slice va Z.length vc) S.many s o (.slice ba B.length bc) w3 := ⟨f1.cell 0 rfl, f1.cell 1 rfl, n3m.cell 0 rfl, n3m.cell 1 rfl, n3m.cell 2 rfl⟩
  refine hK _ _ (fun _ => hS3) ?_
  clear hK K
  (try simp only [Act.put, List.setIfInBounds_toArray, List.set_cons_zero, List.set_cons_succ])
  have F1 := Lib.hid f1
  have F2 := Lib.hid f2
  have F3 := Lib.hid f3
  have HG := Lib.hid hg
  have HL := Lib.hid hl
  have HO := Lib.hid ho
  have NM := Lib.hid n3m
  clear f1 f2 f3 hg hl ho n3m n1 nm n2 hy hI
  refine till_one (i := 15) (o := { dst := some 72, op := Op.nilCheck (Operand.tmp 57), type := 0, pos := "outq.go:62", after := #[{ on := 0, ground := Ground.data }, { on := 0, ground := Ground.phase }, { on := 1, ground := Ground.phase }, { on := 2, ground := Ground.phase }, { on := 3, ground := Ground.phase }, { on := 4, ground := Ground.phase }, { on := 5, ground := Ground.phase }, { on := 6, ground := Ground.phase }, { on := 7, ground := Ground.phase }, { on := 8, ground := Ground.phase }, { on := 9, ground := Ground.phase }, { on := 10, ground := Ground.phase }, { on := 11, ground := Ground.phase }, { on := 12, ground := Ground.phase }, { on := 13, ground := Ground.phase }, { on := 14, ground := Ground.phase }], guard := none }) (by kernel_rfl) rfl (fun K hK => ?_)
  have HKK := Lib.hid hK
  clear hK
  go_simp
  refine HKK.out _ _ (fun _ => hS3) ?_
  clear HKK K
  (try simp only [Act.put, List.setIfInBounds_toArray, List.set_cons_zero, List.set_cons_succ])
  refine till_one (i := 16) (o := { dst := some 73, op := Op.fieldAddr 65 (Operand.tmp 72) 0, type := 0, pos := "outq.go:62", after := #[{ on := 15, ground := Ground.data }, { on := 0, ground := Ground.phase }, { on := 1, ground := Ground.phase }, { on := 2, ground := Ground.phase }, { on := 3, ground := Ground.phase }, { on := 4, ground := Ground.phase }, { on := 5, ground := Ground.phase }, { on := 6, ground := Ground.phase }, { on := 7, ground := Ground.phase }, { on := 8, ground := Ground.phase }, { on := 9, ground := Ground.phase }, { on := 10, ground := Ground.phase }, { on := 11, ground := Ground.phase }, { on := 12, ground := Ground.phase }, { on := 13, ground := Ground.phase }, { on := 14, ground := Ground.phase }], guard := none }) (by kernel_rfl) rfl (fun K hK => ?_)
  have HKK := Lib.hid hK
  clear hK
  go_simp
  refine HKK.out _ _ (fun _ => hS3) ?_
  clear HKK K
  (try simp only [Act.put, List.setIfInBounds_toArray, List.set_cons_zero, List.set_cons_succ])
  have x0 := F1.out.cell 0 rfl
  have y0 := F1.out.free 0
  refine till_one (i := 17) (o := { dst := none, op := Op.store 63 (Operand.tmp 73) (Operand.tmp 71), type := 0, pos := "outq.go:62", after := #[{ on := 16, ground := Ground.data }, { on := 14, ground := Ground.data }, { on := 14, ground := Ground.chain }, { on := 0, ground := Ground.phase }, { on := 1, ground := Ground.phase }, { on := 2, ground := Ground.phase }, { on := 3, ground := Ground.phase }, { on := 4, ground := Ground.phase }, { on := 5, ground := Ground.phase }, { on := 6, ground := Ground.phase }, { on := 7, ground := Ground.phase }, { on := 8, ground := Ground.phase }, { on := 9, ground := Ground.phase }, { on := 10, ground := Ground.phase }, { on := 11, ground := Ground.phase }, { on := 12, ground := Ground.phase }, { on := 13, ground := Ground.phase }, { on := 14, ground := Ground.phase }], guard := none }) (by kernel_rfl) rfl (fun K hK => ?_)
  have HKK := Lib.hid hK
  clear hK
  go_simp
  refine HKK.out _ _ (fun h => absurd rfl h) ?_
  clear HKK K
  (try simp only [Act.put, List.setIfInBounds_toArray, List.set_cons_zero, List.set_cons_succ])
  refine till_done (by kernel_rfl) ?_ _
  obtain ⟨w4, hw4⟩ : ∃ w4, w3.setCell ⟨b, 0, none⟩ (.slice va' (Z.length + 1) vc') = w4 := ⟨_, rfl⟩
  have A4 := F2.out
  have T4 := F3.out
  have m4 := NM.out.setOther (a := ⟨b, 0, none⟩) (fun e => NM.out.ne F1.out (by decide) e) (.slice va' (Z.length + 1) vc')
  rw [hw4] at A4 T4 m4 ⊢
  obtain ⟨wq, hwq⟩ : ∃ wq, wq = w4.drew := ⟨_, rfl⟩
  have A5 : outIs wq b (foot b (.slice va' (Z.length + 1) vc') (.slice a2 S.ssn.length cap2) (Z ++ [(wd.heap.size, .slice ba B.length bc, IT.new S s o B un)])) { S with L := S.L ++ [IT.new S s o B un] } := hwq ▸ A4.past (turned_drew _ []) (by simp)
  have m5 : obj wq w.heap.size 31 [.int .u16 s, .bool o, .slice ba B.length bc] := hwq ▸ m4
  have T5 : turned wr wq (foot b (.slice va Z.length vc) (.slice a2 S.ssn.length cap2) Z) := hwq ▸ T4
  obtain ⟨pv, psv, po⟩ := A5.used
  have c1 : wq.cell? ⟨b, 1, none⟩ = some (.int .i64 S.many) := po.cell 1 rfl
  have c3 : wq.cell? ⟨b, 3, none⟩ = some (.int .i64 S.used) := po.cell 3 rfl
  have b2 := m5.cell 2 rfl
  have f1 := po.free 1
  have f3 := po.free 3
  have hm0 := HK.out.m0
  have hm1 := HK.out.m1
  have hl := HK.out.l
  have s3 : IntKind.i64.wrap (S.used + (B.length : Int)) = S.used + (B.length : Int) := IntWalk.i64_in _ (by omega)
  have s4 : IntKind.i64.wrap (S.many + 1) = S.many + 1 := IntWalk.i64_in _ (by omega)
  have s5 : IntKind.i64.wrap (S.many + 1 - 1) = S.many := by rw [IntWalk.i64_in _ (by omega)]; omega
  have HQ := Lib.hid hwq
  have A6 := Lib.hid A5
  have T6 := Lib.hid T5
  have TR := Lib.hid tR
  clear A4 T4 m4 A5 m5 T5 po hwq hw4 tA tB tR x0 y0 hS3
  go_wp2_with fail
  refine region_tail 8 (by kernel_rfl) (by kernel_rfl) wq HQ.out ?_
  simp only [List.take_succ_cons, List.take_zero, List.drop_succ_cons, List.drop_zero]
  iterate 8 still_step
  refine wpStill_nil ?_
  go_wp2_with fail
  go_ret2
  obtain ⟨U1, U2⟩ := A6.out.setUsed (S.used + B.length) (S.used + B.length) rfl
  obtain ⟨V1, V2⟩ := U1.setMany (S.many + 1) (S.many + 1) rfl
  have G : grewFoot w (foot b (.slice va Z.length vc) (.slice a2 S.ssn.length cap2) Z) (foot b (.slice va' (Z.length + 1) vc') (.slice a2 S.ssn.length cap2) (Z ++ [(wd.heap.size, .slice ba B.length bc, IT.new S s o B un)])) := by
    refine foot_grew (HL.out.imp id (fun h k e => ?_)) TW.out.2.2.2.1 (fun k e => ?_)
    · have h1 := h k e
      have h2 := TW.out.2.2.2.1
      have h3 := TR.out.2.2.2.1
      omega
    · exact (row_lt0 QR.out k e).1
  have t0 : turned w wq (foot b (.slice va Z.length vc) (.slice a2 S.ssn.length cap2) Z) := turned_trans (turned_trans (turned_old TW.out (by simp)) (turned_more TR.out (by simp))) T6.out
  exact ⟨rfl, ⟨_, V1, G⟩, turned_after (turned_after t0 U2 G) V2 G⟩
end Go.Proofs.Ytibnjakiagcopaa
