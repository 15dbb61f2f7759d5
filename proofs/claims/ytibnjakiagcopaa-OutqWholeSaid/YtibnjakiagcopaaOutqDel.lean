/- slices.IndexFunc and slices.DeleteFunc with Expire's closure. Conditions: the list, its items and the boxes lie in memory. -/
import Derived.Test.YtibnjakiagcopaaOutqExp
import Derived.Deep.LoopGhost
import Derived.Lib.SliceRun
namespace Go.Proofs.Ytibnjakiagcopaa
open Go.RowKit Go.Deep
set_option linter.unusedVariables false
set_option linter.unusedSimpArgs false

/-- The closure at any message. -/
theorem oexp (g nb gb db ib sb base k : Nat) (bv dv : Value) (x : IT) (now : Int) (X : XS) (w : World) (hi : itemIs w (g, bv, x)) (hk : x.ok k) (hb : boxIs w base nb gb db ib sb dv now X) (hbs : base ≤ w.heap.size) (hX : 0 ≤ X.gone ∧ X.gone ≤ 4000000000000) (b : Bool) (hx : x.goes now = b) :
    Calls Try.prog 30 #[.pointer (some ⟨g, 0, none⟩), .pointer (some ⟨nb, 0, none⟩), .pointer (some ⟨gb, 0, none⟩), .pointer (some ⟨db, 0, none⟩), .pointer (some ⟨ib, 0, none⟩), .pointer (some ⟨sb, 0, none⟩)] w fun e w' => e = .returned (.bool b) ∧ (∃ dv', boxIs w' base nb gb db ib sb dv' now (X.step now x) ∧ (∀ q, dv'.ownBlock = some q → dv.ownBlock = some q ∨ w.heap.size ≤ q)) ∧ turned w w' [gb, db, ib, sb] := by
  cases b with
  | true =>
    rcases Nat.eq_zero_or_pos x.at_ with h | h
    · exact oexp_all g nb gb db ib sb base k bv dv x now X w hi hk hb hbs hX hx h
    · exact oexp_rest g nb gb db ib sb base k bv dv x now X w hi hk hb hbs hX hx h
  | false =>
    refine (oexp_no g nb _ _ _ _ bv x now w hi.1 (hb.1.cell 0 rfl) hx).mono ?_
    rintro e w' ⟨rfl, q, rfl⟩
    have eX : X.step now x = X := by unfold XS.step; rw [if_neg (by rw [hx]; decide)]
    refine ⟨rfl, ⟨dv, ?_, fun q hq => .inl hq⟩, turned_drewN _ _ _⟩
    rw [eX]
    exact hb.past (turned_drewN w q []) (by simp)
/-- All of a list. -/
def XS.run (now : Int) (X : XS) (L : List IT) : XS := L.foldl (XS.step now) X
theorem XS.run_snoc (now : Int) (X : XS) (L : List IT) (x : IT) : X.run now (L ++ [x]) = (X.run now L).step now x := by unfold XS.run; rw [List.foldl_append]; rfl
theorem XS.run_take (now : Int) (X : XS) (L : List IT) (j : Nat) (h : j < L.length) : X.run now (L.take (j + 1)) = (X.run now (L.take j)).step now (L[j]'h) := by
  rw [List.take_succ_eq_append_getElem h, XS.run_snoc]
theorem XS.step_no {now : Int} {X : XS} {x : IT} (h : x.goes now = false) : X.step now x = X := by unfold XS.step; rw [if_neg (by rw [h]; decide)]
theorem XS.run_no {now : Int} {X : XS} {L : List IT} (h : ∀ x, x ∈ L → x.goes now = false) : X.run now L = X := by
  induction L with
  | nil => rfl
  | cons x L ih =>
    show XS.run now (X.step now x) L = X
    rw [XS.step_no (h x (by simp))]
    exact ih (fun y hy => h y (by simp [hy]))
theorem XS.step_gone {now : Int} {X : XS} {x : IT} {k : Nat} (hk : x.ok k) : X.gone ≤ (X.step now x).gone ∧ (X.step now x).gone ≤ X.gone + 1048576 := by
  have h1 := hk.a1
  have h2 := hk.b1
  unfold XS.step
  split
  · split
    · show X.gone ≤ X.gone + (x.left : Int) - 1 ∧ X.gone + (x.left : Int) - 1 ≤ X.gone + 1048576
      unfold IT.left
      omega
    · show X.gone ≤ X.gone + (x.left : Int) ∧ X.gone + (x.left : Int) ≤ X.gone + 1048576
      unfold IT.left
      omega
  · omega
theorem XS.run_gone {now : Int} {L : List IT} {k : Nat} : ∀ {X : XS}, (∀ x, x ∈ L → x.ok k) → X.gone ≤ (X.run now L).gone ∧ (X.run now L).gone ≤ X.gone + (L.length : Int) * 1048576 := by
  induction L with
  | nil => intro X _; show X.gone ≤ X.gone ∧ X.gone ≤ X.gone + ((0 : Nat) : Int) * 1048576; omega
  | cons x L ih =>
    intro X h
    have h1 := XS.step_gone (now := now) (X := X) (h x (by simp))
    have h2 := ih (X := X.step now x) (fun y hy => h y (by simp [hy]))
    show X.gone ≤ ((X.step now x).run now L).gone ∧ ((X.step now x).run now L).gone ≤ X.gone + ((L.length + 1 : Nat) : Int) * 1048576
    have e : ((L.length + 1 : Nat) : Int) * 1048576 = (L.length : Int) * 1048576 + 1048576 := by omega
    rw [e]
    omega
abbrev capt (nb gb db ib sb : Nat) : Array Value := #[.pointer (some ⟨nb, 0, none⟩), .pointer (some ⟨gb, 0, none⟩), .pointer (some ⟨db, 0, none⟩), .pointer (some ⟨ib, 0, none⟩), .pointer (some ⟨sb, 0, none⟩)]
set_option maxRecDepth 100000 in
set_option maxHeartbeats 4000000 in
theorem oidx (v : Value) (Z : List ZT) (nb gb db ib sb base k : Nat) (dv : Value) (now : Int) (X : XS) (w : World) (hv : offRow w 0 67 1 v Z.length (flat cP (Z.map (·.1)))) (hZ : ∀ z, z ∈ Z → itemIs w z) (hk : ∀ z, z ∈ Z → z.2.2.ok k)
    (hb : boxIs w base nb gb db ib sb dv now X) (hbs : base ≤ w.heap.size) (hX : 0 ≤ X.gone ∧ X.gone ≤ 4000000000000) (hn : Z.length ≤ 1000000) :
    Calls Try.prog 36 #[v, .func (.func 30) #[] (capt nb gb db ib sb)] w fun e w' =>
      (∃ dv', boxIs w' base nb gb db ib sb dv' now (X.run now (Z.map (·.2.2))) ∧ (∀ z, z ∈ Z → z.2.2.goes now = false) ∧ e = .returned (.int .i64 (-1)) ∧ (∀ q, dv'.ownBlock = some q → dv.ownBlock = some q ∨ w.heap.size ≤ q) ∧ turned w w' [gb, db, ib, sb]) ∨
      (∃ dv' i, ∃ h : i < Z.length, boxIs w' base nb gb db ib sb dv' now (X.run now ((Z.map (·.2.2)).take (i + 1))) ∧ (Z[i]'h).2.2.goes now = true ∧ (∀ j, ∀ hj : j < i, (Z[j]'(Nat.lt_trans hj h)).2.2.goes now = false) ∧ e = .returned (.int .i64 (i : Int)) ∧ (∀ q, dv'.ownBlock = some q → dv.ownBlock = some q ∨ w.heap.size ≤ q) ∧ turned w w' [gb, db, ib, sb]) := by
  obtain ⟨a, c, rfl, hc1, hc2, ha⟩ := hv.form
  have HV := Lib.hid hv
  have HZ := Lib.hid hZ
  have HK := Lib.hid hk
  have HB := Lib.hid hb
  have HA := Lib.hid ha
  clear hv hZ hk hb ha
  go_enter Try.func36, Try.ntmps36
  go_wp2_with fail
  go_loopg [5, 8] Z.length (fun gg _ s8 wr => ∃ kk : Nat, kk ≤ Z.length ∧ Z.length - kk ≤ gg ∧ s8 = .int .i64 kk ∧ (∃ q, wr = w.drewN q) ∧ Aside (∀ j, ∀ hj : j < Z.length, j < kk → (Z[j]'hj).2.2.goes now = false))
  case atStart => exact ⟨0, Nat.zero_le _, by omega, rfl, ⟨0, rfl⟩, fun j _ hj => absurd hj (Nat.not_lt_zero _)⟩
  case round =>
    obtain ⟨kk, hkk, hg, rfl, ⟨q, rfl⟩, A⟩ := hrel
    by_cases hlt : kk < Z.length
    · have hltz : (kk : Int) < (Z.length : Int) := by omega
      obtain ⟨gi, off, rfl⟩ := HA.out (by omega)
      have e0 : (w.drewN q).cell? ⟨gi, off + kk, none⟩ = some (.pointer (some ⟨(Z[kk]'hlt).1, 0, none⟩)) := by
        have := HV.out.cellAt kk (flatP_at _ kk (by simpa using hlt))
        simp only [List.getElem_map] at this
        exact this
      have hcall := fun b (hx : (Z[kk]'hlt).2.2.goes now = b) => oexp (Z[kk]'hlt).1 nb gb db ib sb base k (Z[kk]'hlt).2.1 dv (Z[kk]'hlt).2.2 now X (w.drewN q) ((HZ.out _ (List.getElem_mem hlt)).past (turned_drewN w q []) (by simp) (by simp)) (HK.out _ (List.getElem_mem hlt)) (HB.out.past (turned_drewN w q []) (by simp)) hbs hX b hx
      cases hq : (Z[kk]'hlt).2.2.goes now with
      | true =>
        have hcall := Lib.hid (hcall true hq)
        generalize hZg : (Z[kk]'hlt).1 = zg at e0 hcall
        have HG := Lib.hid hZg
        clear hZg
        go_wp2_with (go_at_call 30; refine hcall.out.mono ?_; rintro e w' ⟨rfl, ⟨dv', hb', hd'⟩, t'⟩)
        go_ret
        refine .inr ⟨dv', kk, hlt, ?_, hq, fun j hj => A.out j (by omega) hj, rfl, hd', t'⟩
        have e1 : X.run now ((Z.map (·.2.2)).take kk) = X := XS.run_no (fun x hx => by
          obtain ⟨j, hj, rfl⟩ := List.getElem_of_mem hx
          have hj' : j < kk := by rw [List.length_take] at hj; omega
          simp only [List.getElem_take, List.getElem_map]
          exact A.out j (by omega) hj')
        rw [XS.run_take now X _ kk (by simpa using hlt), e1]
        simp only [List.getElem_map]
        exact hb'
      | false =>
        have hno := Lib.hid (oexp_no (Z[kk]'hlt).1 nb (.pointer (some ⟨gb, 0, none⟩)) (.pointer (some ⟨db, 0, none⟩)) (.pointer (some ⟨ib, 0, none⟩)) (.pointer (some ⟨sb, 0, none⟩)) (Z[kk]'hlt).2.1 (Z[kk]'hlt).2.2 now (w.drewN q) ((HZ.out _ (List.getElem_mem hlt)).past (turned_drewN w q []) (by simp) (by simp)).1 (HB.out.1.cell 0 rfl) hq)
        clear hcall
        generalize hZg : (Z[kk]'hlt).1 = zg at e0 hno
        have HG := Lib.hid hZg
        clear hZg
        go_wp2_with (go_at_call 30; refine hno.out.mono ?_; rintro e w' ⟨rfl, q1, rfl⟩)
        go_roundg (Z.length - (kk + 1))
        case measure => omega
        case rel =>
          refine ⟨kk + 1, by omega, by omega, by go_num, ⟨q + q1, rfl⟩, (show Aside _ from fun j hj hjk => ?_)⟩
          by_cases e : j = kk
          · subst e
            exact hq
          · exact A.out j hj (by omega)
    · have hltz : ¬ (kk : Int) < (Z.length : Int) := by omega
      have : kk = Z.length := by omega
      subst this
      have hall : ∀ z, z ∈ Z → z.2.2.goes now = false := fun z hz => by
        obtain ⟨j, hj, rfl⟩ := List.getElem_of_mem hz
        exact A.out j hj hj
      have HN := Lib.hid hall
      clear hall
      go_wp2_with fail
      go_ret
      refine .inl ⟨dv, ?_, fun z1 z2 z3 hz => HN.out (z1, z2, z3) hz, rfl, fun q hq => .inl hq, turned_drewN _ _ _⟩
      rw [XS.run_no]
      · exact HB.out.past (turned_drewN w q []) (by simp)
      · intro x hx
        obtain ⟨z, hz, rfl⟩ := List.mem_map.1 hx
        exact HN.out z hz
end Go.Proofs.Ytibnjakiagcopaa
