/- The closure of Expire at a message that goes. Conditions: the item and the boxes lie in memory. -/
import Derived.Test.YtibnjakiagcopaaOutqRest
namespace Go.Proofs.Ytibnjakiagcopaa
open Go.RowKit Go.Deep
set_option linter.unusedVariables false
set_option linter.unusedSimpArgs false

set_option maxRecDepth 100000 in
set_option maxHeartbeats 2000000 in
theorem oexp_all (g nb gb db ib sb base k : Nat) (bv dv : Value) (x : IT) (now : Int) (X : XS) (w : World) (hi : itemIs w (g, bv, x)) (hk : x.ok k) (hb : boxIs w base nb gb db ib sb dv now X) (hbs : base ≤ w.heap.size) (hX : 0 ≤ X.gone ∧ X.gone ≤ 4000000000000) (hx : x.goes now = true) (ha : x.at_ = 0) :
    Calls Try.prog 30 #[.pointer (some ⟨g, 0, none⟩), .pointer (some ⟨nb, 0, none⟩), .pointer (some ⟨gb, 0, none⟩), .pointer (some ⟨db, 0, none⟩), .pointer (some ⟨ib, 0, none⟩), .pointer (some ⟨sb, 0, none⟩)] w fun e w' => e = .returned (.bool true) ∧ (∃ dv', boxIs w' base nb gb db ib sb dv' now (X.step now x) ∧ (∀ q, dv'.ownBlock = some q → dv.ownBlock = some q ∨ w.heap.size ≤ q)) ∧ turned w w' [gb, db, ib, sb] := by
  have hgo : 1 ≤ x.un ∧ x.un ≤ now := of_decide_eq_true hx
  obtain ⟨ba, bc, hbv, hbc1, hbc2, hba⟩ := row_form hi.2
  simp only at hbv hbc1 hbc2 hba
  subst hbv
  obtain ⟨lf, hlf⟩ : ∃ lf, x.at_ + lf = x.B.length := ⟨x.B.length - x.at_, by have := hk.a1; omega⟩
  have hleft : x.left = lf := by unfold IT.left; omega
  have hb1 := hk.b1
  have c4 : w.cell? ⟨g, 4, none⟩ = some (.int .i64 x.un) := hi.1.cell 4 rfl
  have n0 := hb.1.cell 0 rfl
  have d1 : decide (x.un < 1) = false := decide_eq_false (by omega)
  have d2 : decide (now < x.un) = false := decide_eq_false (by omega)
  have HI := Lib.hid hi
  have HB := Lib.hid hb
  have s3 : IntKind.i64.wrap (X.gone + (lf : Int)) = X.gone + (lf : Int) := IntWalk.i64_in _ (by omega)
  have HX := Lib.hid hx
  clear hi hb hk hx hba
  go_enter Try.func30, Try.ntmps30
  go_wp2_with fail
  go_quiet (fail)
  go_wp2_with fail
  obtain ⟨wd, hwd⟩ : ∃ wd, wd = (w.drewN nq).drew := ⟨_, rfl⟩
  have td : turned w wd [] := hwd ▸ turned_drew' (turned_drewN w nq [])
  have Bd := Lib.hid (HB.out.past td (by simp))
  have Id := Lib.hid (HI.out.1.past td (by simp))
  have i2 : wd.cell? ⟨g, 2, none⟩ = some (.slice ba x.B.length bc) := Id.out.cell 2 rfl
  have i5 : wd.cell? ⟨g, 5, none⟩ = some (.int .i64 (x.at_ : Int)) := Id.out.cell 5 rfl
  have g0 := Bd.out.2.1.cell 0 rfl
  have fg0 := Bd.out.2.1.free 0
  have TD := Lib.hid td
  have HWD := Lib.hid hwd
  clear c4 n0 d1 d2 td hwd
  have hS : (fun w' : World => w'.cell? ⟨gb, 0, none⟩ = some (.int .i64 X.gone)) wd := g0
  refine region_till (fun w' : World => w'.cell? ⟨gb, 0, none⟩ = some (.int .i64 X.gone)) 4 (by kernel_rfl) wd HWD.out hS ?_
  refine till_take (i := 0) (v := ?_) rfl (by kernel_rfl) (by kernel_rfl) (by kernel_rfl) (by kernel_rfl) (fun _ _ _ h => h) (Or.inl ⟨by rfl, ?_⟩) (by assumption) ?_
  rotate_left
  · intro wz hSw
    have z0 := hSw
    clear hSw
    go_simp
    (try with_reducible rfl)
  (try simp only [List.getElem_toArray, List.getElem_cons_succ, List.getElem_cons_zero, Act.put, List.setIfInBounds_toArray, List.set_cons_zero, List.set_cons_succ])
  refine till_take (i := 1) (v := ?_) rfl (by kernel_rfl) (by kernel_rfl) (by kernel_rfl) (by kernel_rfl) (fun _ _ _ h => h) (Or.inl ⟨by rfl, ?_⟩) (by assumption) ?_
  rotate_left
  · intro wz hSw
    clear hSw
    go_simp
    (try with_reducible rfl)
  (try simp only [List.getElem_toArray, List.getElem_cons_succ, List.getElem_cons_zero, Act.put, List.setIfInBounds_toArray, List.set_cons_zero, List.set_cons_succ])
  refine till_one (i := 2) (by kernel_rfl) rfl (fun K hK => ?_)
  have HKK := Lib.hid hK
  clear hK
  (try simp only [List.getElem_toArray, List.getElem_cons_succ, List.getElem_cons_zero])
  go_simp
  refine (oleft_l g x.B.length x.at_ lf _ bc _ i2 i5 hb1 hlf).mono ?_
  rintro e w8 ⟨rfl, q, rfl⟩
  (try go_wp2_with fail)
  refine HKK.out _ _ (fun _ => hS) ?_
  clear HKK K
  (try simp only [List.getElem_toArray, List.getElem_cons_succ, List.getElem_cons_zero, Act.put, List.setIfInBounds_toArray, List.set_cons_zero, List.set_cons_succ])
  have hS2 : (fun w' : World => w'.cell? ⟨gb, 0, none⟩ = some (.int .i64 X.gone)) (wd.drewN q) := hS
  refine till_take (i := 3) (v := ?_) rfl (by kernel_rfl) (by kernel_rfl) (by kernel_rfl) (by kernel_rfl) (fun _ _ _ h => h) (Or.inl ⟨by rfl, ?_⟩) (by assumption) ?_
  rotate_left
  · intro wz hSw
    clear hSw
    go_simp
    (try with_reducible rfl)
  (try simp only [List.getElem_toArray, List.getElem_cons_succ, List.getElem_cons_zero, Act.put, List.setIfInBounds_toArray, List.set_cons_zero, List.set_cons_succ])
  have g1 : (wd.drewN q).cell? ⟨gb, 0, none⟩ = some (.int .i64 X.gone) := g0
  have fg1 : (wd.drewN q).frozen? ⟨gb, 0, none⟩ = false := fg0
  refine till_one (i := 4) (by kernel_rfl) rfl (fun K hK => ?_)
  have HKK := Lib.hid hK
  clear hK
  (try simp only [List.getElem_toArray, List.getElem_cons_succ, List.getElem_cons_zero])
  go_simp
  refine HKK.out _ _ (fun h => absurd rfl h) ?_
  clear HKK K
  (try simp only [List.getElem_toArray, List.getElem_cons_succ, List.getElem_cons_zero, Act.put, List.setIfInBounds_toArray, List.set_cons_zero, List.set_cons_succ])
  refine till_done (by kernel_rfl) ?_ _
  obtain ⟨w4, hw4⟩ : ∃ w4, (wd.drewN q).setCell ⟨gb, 0, none⟩ (.int .i64 (X.gone + (lf : Int))) = w4 := ⟨_, rfl⟩
  have t4 : turned wd w4 [gb] := hw4 ▸ turned_set (turned_drewN _ _ _) (by simp) _
  have G4 := Lib.hid (show obj w4 gb 3 [.int .i64 (X.gone + (lf : Int))] from hw4 ▸ (Bd.out.2.1.drewN q).set 0 _)
  have I4 := Lib.hid (Id.out.past t4 (fun e => Id.out.ne Bd.out.2.1 (by decide) (List.mem_singleton.1 e)))
  have N4 := Lib.hid (Bd.out.1.past t4 (fun e => Bd.out.1.ne Bd.out.2.1 (by decide) (List.mem_singleton.1 e)))
  have D4 := Lib.hid (Bd.out.2.2.1.past t4 (fun e => Bd.out.2.2.1.ne Bd.out.2.1 (by decide) (List.mem_singleton.1 e)))
  have B4 := Lib.hid (Bd.out.2.2.2.1.past t4 (fun e => Bd.out.2.2.2.2.2.2 (List.mem_singleton.1 e).symm))
  have S4 := Lib.hid (Bd.out.2.2.2.2.1.past t4 (fun e => Bd.out.2.2.2.2.1.ne Bd.out.2.1 (by decide) (List.mem_singleton.1 e)))
  have R4 := Lib.hid (row_past Bd.out.2.2.2.2.2.1 t4 (fun k e hk => row_ne Bd.out.2.2.2.2.2.1 Bd.out.2.1 (by decide) (by rw [e, List.mem_singleton.1 hk])))
  have T4 := Lib.hid (turned_trans (turned_more TD.out (by simp)) t4)
  have hie := Bd.out.2.2.2.2.2.2
  rw [hw4]
  clear hw4 t4 g0 fg0 g1 fg1 i2 i5 hS hS2
  have k5 : w4.cell? ⟨g, 5, none⟩ = some (.int .i64 (x.at_ : Int)) := I4.out.cell 5 rfl
  rw [ha] at k5
  have k5' : w4.cell? ⟨g, 5, none⟩ = some (.int .i64 0) := k5
  clear k5
  go_wp2_with fail
  go_ret
  have eX : X.step now x = { X with gone := X.gone + (lf : Int) } := by unfold XS.step; rw [if_pos HX.out, if_neg (by omega), hleft]
  refine ⟨rfl, ⟨dv, ?_, fun q hq => .inl hq⟩, turned_more T4.out (by simp)⟩
  rw [eX]
  exact ⟨N4.out, G4.out, D4.out, B4.out, S4.out, R4.out, hie⟩
set_option maxRecDepth 100000 in
set_option maxHeartbeats 2000000 in
theorem oexp_rest (g nb gb db ib sb base k : Nat) (bv dv : Value) (x : IT) (now : Int) (X : XS) (w : World) (hi : itemIs w (g, bv, x)) (hk : x.ok k) (hb : boxIs w base nb gb db ib sb dv now X) (hbs : base ≤ w.heap.size) (hX : 0 ≤ X.gone ∧ X.gone ≤ 4000000000000) (hx : x.goes now = true) (ha : 0 < x.at_) :
    Calls Try.prog 30 #[.pointer (some ⟨g, 0, none⟩), .pointer (some ⟨nb, 0, none⟩), .pointer (some ⟨gb, 0, none⟩), .pointer (some ⟨db, 0, none⟩), .pointer (some ⟨ib, 0, none⟩), .pointer (some ⟨sb, 0, none⟩)] w fun e w' => e = .returned (.bool true) ∧ (∃ dv', boxIs w' base nb gb db ib sb dv' now (X.step now x) ∧ (∀ q, dv'.ownBlock = some q → dv.ownBlock = some q ∨ w.heap.size ≤ q)) ∧ turned w w' [gb, db, ib, sb] := by
  have hgo : 1 ≤ x.un ∧ x.un ≤ now := of_decide_eq_true hx
  obtain ⟨ba, bc, hbv, hbc1, hbc2, hba⟩ := row_form hi.2
  simp only at hbv hbc1 hbc2 hba
  subst hbv
  obtain ⟨lf, hlf⟩ : ∃ lf, x.at_ + lf = x.B.length := ⟨x.B.length - x.at_, by have := hk.a1; omega⟩
  have hleft : x.left = lf := by unfold IT.left; omega
  have hb1 := hk.b1
  have c4 : w.cell? ⟨g, 4, none⟩ = some (.int .i64 x.un) := hi.1.cell 4 rfl
  have n0 := hb.1.cell 0 rfl
  have d1 : decide (x.un < 1) = false := decide_eq_false (by omega)
  have d2 : decide (now < x.un) = false := decide_eq_false (by omega)
  have HI := Lib.hid hi
  have HB := Lib.hid hb
  have s3 : IntKind.i64.wrap (X.gone + (lf : Int)) = X.gone + (lf : Int) := IntWalk.i64_in _ (by omega)
  have HX := Lib.hid hx
  clear hi hb hk hx hba
  go_enter Try.func30, Try.ntmps30
  go_wp2_with fail
  go_quiet (fail)
  go_wp2_with fail
  obtain ⟨wd, hwd⟩ : ∃ wd, wd = (w.drewN nq).drew := ⟨_, rfl⟩
  have td : turned w wd [] := hwd ▸ turned_drew' (turned_drewN w nq [])
  have Bd := Lib.hid (HB.out.past td (by simp))
  have Id := Lib.hid (HI.out.1.past td (by simp))
  have i2 : wd.cell? ⟨g, 2, none⟩ = some (.slice ba x.B.length bc) := Id.out.cell 2 rfl
  have i5 : wd.cell? ⟨g, 5, none⟩ = some (.int .i64 (x.at_ : Int)) := Id.out.cell 5 rfl
  have g0 := Bd.out.2.1.cell 0 rfl
  have fg0 := Bd.out.2.1.free 0
  have TD := Lib.hid td
  have HWD := Lib.hid hwd
  clear c4 n0 d1 d2 td hwd
  have hS : (fun w' : World => w'.cell? ⟨gb, 0, none⟩ = some (.int .i64 X.gone)) wd := g0
  refine region_till (fun w' : World => w'.cell? ⟨gb, 0, none⟩ = some (.int .i64 X.gone)) 4 (by kernel_rfl) wd HWD.out hS ?_
  refine till_take (i := 0) (v := ?_) rfl (by kernel_rfl) (by kernel_rfl) (by kernel_rfl) (by kernel_rfl) (fun _ _ _ h => h) (Or.inl ⟨by rfl, ?_⟩) (by assumption) ?_
  rotate_left
  · intro wz hSw
    have z0 := hSw
    clear hSw
    go_simp
    (try with_reducible rfl)
  (try simp only [List.getElem_toArray, List.getElem_cons_succ, List.getElem_cons_zero, Act.put, List.setIfInBounds_toArray, List.set_cons_zero, List.set_cons_succ])
  refine till_take (i := 1) (v := ?_) rfl (by kernel_rfl) (by kernel_rfl) (by kernel_rfl) (by kernel_rfl) (fun _ _ _ h => h) (Or.inl ⟨by rfl, ?_⟩) (by assumption) ?_
  rotate_left
  · intro wz hSw
    clear hSw
    go_simp
    (try with_reducible rfl)
  (try simp only [List.getElem_toArray, List.getElem_cons_succ, List.getElem_cons_zero, Act.put, List.setIfInBounds_toArray, List.set_cons_zero, List.set_cons_succ])
  refine till_one (i := 2) (by kernel_rfl) rfl (fun K hK => ?_)
  have HKK := Lib.hid hK
  clear hK
  (try simp only [List.getElem_toArray, List.getElem_cons_succ, List.getElem_cons_zero])
  go_simp
  refine (oleft_l g x.B.length x.at_ lf _ bc _ i2 i5 hb1 hlf).mono ?_
  rintro e w8 ⟨rfl, q, rfl⟩
  (try go_wp2_with fail)
  refine HKK.out _ _ (fun _ => hS) ?_
  clear HKK K
  (try simp only [List.getElem_toArray, List.getElem_cons_succ, List.getElem_cons_zero, Act.put, List.setIfInBounds_toArray, List.set_cons_zero, List.set_cons_succ])
  have hS2 : (fun w' : World => w'.cell? ⟨gb, 0, none⟩ = some (.int .i64 X.gone)) (wd.drewN q) := hS
  refine till_take (i := 3) (v := ?_) rfl (by kernel_rfl) (by kernel_rfl) (by kernel_rfl) (by kernel_rfl) (fun _ _ _ h => h) (Or.inl ⟨by rfl, ?_⟩) (by assumption) ?_
  rotate_left
  · intro wz hSw
    clear hSw
    go_simp
    (try with_reducible rfl)
  (try simp only [List.getElem_toArray, List.getElem_cons_succ, List.getElem_cons_zero, Act.put, List.setIfInBounds_toArray, List.set_cons_zero, List.set_cons_succ])
  have g1 : (wd.drewN q).cell? ⟨gb, 0, none⟩ = some (.int .i64 X.gone) := g0
  have fg1 : (wd.drewN q).frozen? ⟨gb, 0, none⟩ = false := fg0
  refine till_one (i := 4) (by kernel_rfl) rfl (fun K hK => ?_)
  have HKK := Lib.hid hK
  clear hK
  (try simp only [List.getElem_toArray, List.getElem_cons_succ, List.getElem_cons_zero])
  go_simp
  refine HKK.out _ _ (fun h => absurd rfl h) ?_
  clear HKK K
  (try simp only [List.getElem_toArray, List.getElem_cons_succ, List.getElem_cons_zero, Act.put, List.setIfInBounds_toArray, List.set_cons_zero, List.set_cons_succ])
  refine till_done (by kernel_rfl) ?_ _
  obtain ⟨w4, hw4⟩ : ∃ w4, (wd.drewN q).setCell ⟨gb, 0, none⟩ (.int .i64 (X.gone + (lf : Int))) = w4 := ⟨_, rfl⟩
  have t4 : turned wd w4 [gb] := hw4 ▸ turned_set (turned_drewN _ _ _) (by simp) _
  have G4 := Lib.hid (show obj w4 gb 3 [.int .i64 (X.gone + (lf : Int))] from hw4 ▸ (Bd.out.2.1.drewN q).set 0 _)
  have I4 := Lib.hid (Id.out.past t4 (fun e => Id.out.ne Bd.out.2.1 (by decide) (List.mem_singleton.1 e)))
  have N4 := Lib.hid (Bd.out.1.past t4 (fun e => Bd.out.1.ne Bd.out.2.1 (by decide) (List.mem_singleton.1 e)))
  have D4 := Lib.hid (Bd.out.2.2.1.past t4 (fun e => Bd.out.2.2.1.ne Bd.out.2.1 (by decide) (List.mem_singleton.1 e)))
  have B4 := Lib.hid (Bd.out.2.2.2.1.past t4 (fun e => Bd.out.2.2.2.2.2.2 (List.mem_singleton.1 e).symm))
  have S4 := Lib.hid (Bd.out.2.2.2.2.1.past t4 (fun e => Bd.out.2.2.2.2.1.ne Bd.out.2.1 (by decide) (List.mem_singleton.1 e)))
  have R4 := Lib.hid (row_past Bd.out.2.2.2.2.2.1 t4 (fun k e hk => row_ne Bd.out.2.2.2.2.2.1 Bd.out.2.1 (by decide) (by rw [e, List.mem_singleton.1 hk])))
  have T4 := Lib.hid (turned_trans (turned_more TD.out (by simp)) t4)
  have hie := Bd.out.2.2.2.2.2.2
  rw [hw4]
  clear hw4 t4 g0 fg0 g1 fg1 i2 i5 hS hS2
  have k5 : w4.cell? ⟨g, 5, none⟩ = some (.int .i64 (x.at_ : Int)) := I4.out.cell 5 rfl
  have d5 : decide ((0 : Int) < (x.at_ : Int)) = true := decide_eq_true (by omega)
  go_wp2_with fail
  have i3 : w4.cell? ⟨g, 3, none⟩ = some (.int .i64 x.id) := I4.out.cell 3 rfl
  refine wp_region_held_drew (S := fun w' => w'.cell? ⟨g, 3, none⟩ = some (.int .i64 x.id)) (by kernel_rfl) i3 (fun hH => ?_)
  refine wpAnyH_take (i := 0) (v := ?_) rfl (by kernel_rfl) (by kernel_rfl) (by kernel_rfl) (fun _ _ _ h => h) (Or.inl ⟨by rfl, ?_⟩) (by assumption) ?_
  rotate_left
  · intro wz hSw
    have z3 := hSw
    go_simp
    (try with_reducible rfl)
  (try simp only [List.getElem_toArray, List.getElem_cons_succ, List.getElem_cons_zero, Act.put, List.setIfInBounds_toArray, List.set_cons_zero, List.set_cons_succ])
  refine wpAnyH_take (i := 2) (v := ?_) rfl (by kernel_rfl) (by kernel_rfl) (by kernel_rfl) (fun _ _ _ h => h) (Or.inl ⟨by rfl, ?_⟩) (by assumption) ?_
  rotate_left
  · intro wz hSw
    have z3 := hSw
    go_simp
    (try with_reducible rfl)
  (try simp only [List.getElem_toArray, List.getElem_cons_succ, List.getElem_cons_zero, Act.put, List.setIfInBounds_toArray, List.set_cons_zero, List.set_cons_succ])
  refine wpAnyH_take (i := 3) (v := ?_) rfl (by kernel_rfl) (by kernel_rfl) (by kernel_rfl) (fun _ _ _ h => h) (Or.inl ⟨by rfl, ?_⟩) (by assumption) ?_
  rotate_left
  · intro wz hSw
    have z3 := hSw
    go_simp
    (try with_reducible rfl)
  (try simp only [List.getElem_toArray, List.getElem_cons_succ, List.getElem_cons_zero, Act.put, List.setIfInBounds_toArray, List.set_cons_zero, List.set_cons_succ])
  refine wpAnyH_take (i := 4) (v := ?_) rfl (by kernel_rfl) (by kernel_rfl) (by kernel_rfl) (fun _ _ _ h => h) (Or.inl ⟨by rfl, ?_⟩) (by assumption) ?_
  rotate_left
  · intro wz hSw
    have z3 := hSw
    go_simp
    (try with_reducible rfl)
  (try simp only [List.getElem_toArray, List.getElem_cons_succ, List.getElem_cons_zero, Act.put, List.setIfInBounds_toArray, List.set_cons_zero, List.set_cons_succ])
  refine wpAnyH_take (i := 5) (v := ?_) rfl (by kernel_rfl) (by kernel_rfl) (by kernel_rfl) (fun _ _ _ h => h) (Or.inl ⟨by rfl, ?_⟩) (by assumption) ?_
  rotate_left
  · intro wz hSw
    have z3 := hSw
    go_simp
    (try with_reducible rfl)
  (try simp only [List.getElem_toArray, List.getElem_cons_succ, List.getElem_cons_zero, Act.put, List.setIfInBounds_toArray, List.set_cons_zero, List.set_cons_succ])
  refine wpAnyH_ready (rs := [1]) (by kernel_rfl) (by simp) ?_
  refine AllReadyH.cons rfl (fun K hK => ?_) AllReadyH.nil
  have HKK := Lib.hid hK
  clear hK
  (try simp only [List.getElem_toArray, List.getElem_cons_succ, List.getElem_cons_zero])
  go_simp
  refine (orest g _ x _ (I4.out.past (turned_drew _ []) (by simp))).mono ?_
  rintro e w5 ⟨q5, rfl, r5, t5⟩
  (try go_wp2_with fail)
  have t45 : turned w4 w5 [] := turned_trans (turned_drew _ []) t5
  refine HKK.out.out _ _ (I4.out.past t45 (by simp) |>.cell 3 rfl) (fun hH1 => ?_)
  clear HKK K
  (try simp only [List.getElem_toArray, List.getElem_cons_succ, List.getElem_cons_zero, Act.put, List.setIfInBounds_toArray, List.set_cons_zero, List.set_cons_succ])
  refine wpAnyH_ready (rs := [6]) (by kernel_rfl) (by simp) ?_
  refine AllReadyH.cons rfl (fun K hK => ?_) AllReadyH.nil
  have HKK := Lib.hid hK
  clear hK
  (try simp only [List.getElem_toArray, List.getElem_cons_succ, List.getElem_cons_zero])
  rw [if_pos (by rfl)]
  refine wp_store_row 34 _ _ rfl db #[.int .u32 0, .int .u16 x.s, .int .u16 x.ssn, .bool !x.o, .bool false, .bool true, .slice (some ⟨q5, 0, none⟩) 1 1] rfl rfl 34 _ (D4.out.past t45 (by simp)) (by kernel_rfl) rfl (by rw [← Array.all_toList]; rfl) ?_
  have D6 := Lib.hid (show obj (w5.setRow db #[.int .u32 0, .int .u16 x.s, .int .u16 x.ssn, .bool !x.o, .bool false, .bool true, .slice (some ⟨q5, 0, none⟩) 1 1]) db 34 [.int .u32 0, .int .u16 x.s, .int .u16 x.ssn, .bool !x.o, .bool false, .bool true, .slice (some ⟨q5, 0, none⟩) 1 1] from setRow_heap w5 db _ #[.int .u32 0, .int .u16 x.s, .int .u16 x.ssn, .bool !x.o, .bool false, .bool true, .slice (some ⟨q5, 0, none⟩) 1 1] _ _ (D4.out.past t45 (by simp)))
  have t6 := turned_setRow w5 db #[.int .u32 0, .int .u16 x.s, .int .u16 x.ssn, .bool !x.o, .bool false, .bool true, .slice (some ⟨q5, 0, none⟩) 1 1]
  generalize w5.setRow db #[.int .u32 0, .int .u16 x.s, .int .u16 x.ssn, .bool !x.o, .bool false, .bool true, .slice (some ⟨q5, 0, none⟩) 1 1] = w6 at D6 t6 ⊢
  have t46 : turned w4 w6 [db] := turned_trans (turned_more t45 (by simp)) t6
  have I6 := Lib.hid (I4.out.past t46 (fun e => I4.out.ne D4.out (by decide) (List.mem_singleton.1 e)))
  have B6 := Lib.hid (B4.out.past t46 (fun e => B4.out.ne D4.out (by decide) (List.mem_singleton.1 e)))
  have x0 := B6.out.cell 0 rfl
  have y0 := B6.out.free 0
  refine HKK.out.out _ _ (I6.out.cell 3 rfl) (fun hH6 => ?_)
  clear HKK K
  (try simp only [List.getElem_toArray, List.getElem_cons_succ, List.getElem_cons_zero, Act.put, List.setIfInBounds_toArray, List.set_cons_zero, List.set_cons_succ])
  refine wpAnyH_ready (rs := [7]) (by kernel_rfl) (by simp) ?_
  refine AllReadyH.cons rfl (fun K hK => ?_) AllReadyH.nil
  have HKK := Lib.hid hK
  clear hK
  (try simp only [List.getElem_toArray, List.getElem_cons_succ, List.getElem_cons_zero])
  go_simp
  obtain ⟨w7, hw7⟩ : ∃ w7, w6.setCell ⟨ib, 0, none⟩ (.int .i64 x.id) = w7 := ⟨_, rfl⟩
  have t7 : turned w6 w7 [ib] := hw7 ▸ turned_set (turned_refl _ _) (by simp) _
  have B7 := Lib.hid (show obj w7 ib 3 [.int .i64 x.id] from hw7 ▸ B6.out.set 0 _)
  rw [hw7]
  have I7 := Lib.hid (I6.out.past t7 (fun e => I6.out.ne B6.out (by decide) (List.mem_singleton.1 e)))
  have S6 := Lib.hid (S4.out.past t46 (fun e => S4.out.ne D4.out (by decide) (List.mem_singleton.1 e)))
  have S7 := Lib.hid (S6.out.past t7 (fun e => S6.out.ne B6.out (by decide) (List.mem_singleton.1 e)))
  clear x0 y0 hw7
  have x0 := S7.out.cell 0 rfl
  have y0 := S7.out.free 0
  refine HKK.out.out _ _ (I7.out.cell 3 rfl) (fun hH7 => ?_)
  clear HKK K
  (try simp only [List.getElem_toArray, List.getElem_cons_succ, List.getElem_cons_zero, Act.put, List.setIfInBounds_toArray, List.set_cons_zero, List.set_cons_succ])
  refine wpAnyH_ready (rs := [8]) (by kernel_rfl) (by simp) ?_
  refine AllReadyH.cons rfl (fun K hK => ?_) AllReadyH.nil
  have HKK := Lib.hid hK
  clear hK
  (try simp only [List.getElem_toArray, List.getElem_cons_succ, List.getElem_cons_zero])
  go_simp
  obtain ⟨w8, hw8⟩ : ∃ w8, w7.setCell ⟨sb, 0, none⟩ (.bool true) = w8 := ⟨_, rfl⟩
  have t8 : turned w7 w8 [sb] := hw8 ▸ turned_set (turned_refl _ _) (by simp) _
  have S8 := Lib.hid (show obj w8 sb 4 [.bool true] from hw8 ▸ S7.out.set 0 _)
  rw [hw8]
  have I8 := Lib.hid (I7.out.past t8 (fun e => I7.out.ne S7.out (by decide) (List.mem_singleton.1 e)))
  clear x0 y0 hw8
  refine HKK.out.out _ _ (I8.out.cell 3 rfl) (fun hH8 => ?_)
  clear HKK K
  (try simp only [List.getElem_toArray, List.getElem_cons_succ, List.getElem_cons_zero, Act.put, List.setIfInBounds_toArray, List.set_cons_zero, List.set_cons_succ])
  refine wpAnyH_done (by kernel_rfl) ?_ _
  clear hH hH1 hH6 hH7 hH8 i3 k5
  have t48 : turned w4 w8 [db, ib, sb] := turned_trans (turned_trans (turned_more t46 (by simp)) (turned_more t7 (by simp))) (turned_more t8 (by simp))
  have D8 := Lib.hid (show obj w8 db 34 _ from (D6.out.past t7 (fun e => D6.out.ne B6.out (by decide) (List.mem_singleton.1 e))).past t8 (fun e => (D4.out.past t45 (by simp)).ne (S4.out.past t45 (by simp)) (by decide) (List.mem_singleton.1 e)))
  have B8 := Lib.hid (B7.out.past t8 (fun e => B7.out.ne S7.out (by decide) (List.mem_singleton.1 e)))
  have G8 := Lib.hid (G4.out.past t48 (fun e => by
    simp only [List.mem_cons, List.not_mem_nil, or_false] at e
    rcases e with e | e | e
    · exact G4.out.ne D4.out (by decide) e
    · exact hie e
    · exact G4.out.ne S4.out (by decide) e))
  have N8 := Lib.hid (N4.out.past t48 (fun e => by
    simp only [List.mem_cons, List.not_mem_nil, or_false] at e
    rcases e with e | e | e
    · exact N4.out.ne D4.out (by decide) e
    · exact N4.out.ne B4.out (by decide) e
    · exact N4.out.ne S4.out (by decide) e))
  have t68 : turned w5 w8 [db, ib, sb] := turned_trans (turned_trans (turned_more t6 (by simp)) (turned_more t7 (by simp))) (turned_more t8 (by simp))
  have R8 := Lib.hid (row_past (row_to (b2 := base) r5 (by have h1 := T4.out.2.2.2.1; have e4 : w4.drew.heap.size = w4.heap.size := rfl; omega)) t68 (fun q hq e => by
    simp only [List.mem_cons, List.not_mem_nil, or_false] at e
    rcases e with rfl | rfl | rfl
    · exact row_ne r5 (D4.out.past t45 (by simp)) (by decide) hq
    · exact row_ne r5 (B4.out.past t45 (by simp)) (by decide) hq
    · exact row_ne r5 (S4.out.past t45 (by simp)) (by decide) hq))
  have RL := Lib.hid (row_lt0 r5)
  have T48 := Lib.hid t48
  have v0 := G8.out.cell 0 rfl
  have v1 := G8.out.free 0
  have v6 := D8.out.cell 6 rfl
  have s6 : IntKind.i64.wrap (X.gone + (lf : Int) - 1) = X.gone + (lf : Int) - 1 := IntWalk.i64_in _ (by omega)
  clear t48 t68 t6 t7 t8 t45 t46 t5 r5 D6 I6 B6 B7 I7 S6 S7
  go_wp2_with fail
  go_ret
  have eX : X.step now x = ⟨X.gone + (lf : Int) - 1, x.s, x.ssn, !x.o, true, [0], x.id⟩ := by unfold XS.step; rw [if_pos HX.out, if_pos ha, hleft]
  have t9 : turned w8 (w8.setCell ⟨gb, 0, none⟩ (.int .i64 (X.gone + (lf : Int) - 1))) [gb] := turned_set (turned_refl _ _) (by simp) _
  refine ⟨rfl, ⟨.slice (some ⟨q5, 0, none⟩) 1 1, ?_, fun q hq => .inr ?_⟩, turned_trans (turned_more T4.out (by simp)) (turned_trans (turned_more T48.out (by simp)) (turned_more t9 (by simp)))⟩
  · rw [eX]
    refine ⟨N8.out.past t9 (fun e => N8.out.ne G8.out (by decide) (List.mem_singleton.1 e)), G8.out.set 0 _, D8.out.past t9 (fun e => D8.out.ne G8.out (by decide) (List.mem_singleton.1 e)), B8.out.past t9 (fun e => hie (List.mem_singleton.1 e).symm), S8.out.past t9 (fun e => S8.out.ne G8.out (by decide) (List.mem_singleton.1 e)), row_past R8.out t9 (fun q hq e => row_ne R8.out G8.out (by decide) (by rw [hq, List.mem_singleton.1 e])), hie⟩
  · have h1 := (RL.out q hq).1
    have h2 := T4.out.2.2.2.1
    have e4 : w4.drew.heap.size = w4.heap.size := rfl
    omega
end Go.Proofs.Ytibnjakiagcopaa
