/- Pieces, and bytes, in memory. No condition. -/
import Derived.Test.YtcfpgeceenkheaaOpen
namespace Go.Proofs.Ytcfpgeceenkheaa
open Go.RowKit
set_option linter.unusedVariables false
set_option linter.unusedSimpArgs false

structure PD where
  (t s n : Int) (u f l : Bool) (ba : Option Addr) (bn bc : Nat)
def cPD (x : PD) : List Value := [.int .u32 x.t, .int .u16 x.s, .int .u16 x.n, .bool x.u, .bool x.f, .bool x.l, .slice x.ba x.bn x.bc]
structure PD.ok (x : PD) : Prop where
  t0 : 0 ≤ x.t
  t1 : x.t < 4294967296
  s0 : 0 ≤ x.s
  s1 : x.s < 65536
  n0 : 0 ≤ x.n
  n1 : x.n < 65536
theorem cPD_len (x : PD) : (cPD x).length = 7 := rfl
theorem cPD_one (x : PD) : ∀ u, u ∈ cPD x → u.oneCell' = true := by
  intro u hu
  simp [cPD] at hu
  rcases hu with rfl | rfl | rfl | rfl | rfl | rfl | rfl
  all_goals rfl
theorem flatPD_one (X : List PD) : ∀ u, u ∈ flat cPD X → u.oneCell' = true := flat_one cPD_one X

/-- Pieces in memory. -/
def LiesD (w : World) (v : Value) (X : List PD) : Prop := Lies w 7 v X.length (flat cPD X) ∧ ∀ x, x ∈ X → x.ok
theorem LiesD.cells {w : World} {a : Option Addr} {n cap : Nat} {X : List PD} (h : LiesD w (.slice a n cap) X) (j : Nat) (hj : j < X.length) : ∃ b off, a = some ⟨b, off, none⟩ ∧ b < w.heap.size ∧
    w.cell? ⟨b, off + j * 7, none⟩ = some (.int .u32 (X[j]'hj).t) ∧ w.cell? ⟨b, off + j * 7 + 1, none⟩ = some (.int .u16 (X[j]'hj).s) ∧ w.cell? ⟨b, off + j * 7 + 2, none⟩ = some (.int .u16 (X[j]'hj).n) ∧ w.cell? ⟨b, off + j * 7 + 3, none⟩ = some (.bool (X[j]'hj).u) ∧ w.cell? ⟨b, off + j * 7 + 4, none⟩ = some (.bool (X[j]'hj).f) ∧ w.cell? ⟨b, off + j * 7 + 5, none⟩ = some (.bool (X[j]'hj).l) ∧ w.cell? ⟨b, off + j * 7 + 6, none⟩ = some (.slice (X[j]'hj).ba (X[j]'hj).bn (X[j]'hj).bc) := by
  obtain ⟨⟨_, a', cap', e, _, _, hc⟩, _⟩ := h
  cases e
  obtain ⟨b, off, rfl, hb, hcell⟩ := hc (by omega)
  have g : ∀ i, i < 7 → w.cell? ⟨b, off + j * 7 + i, none⟩ = (cPD (X[j]'hj))[i]? := fun i hi => by
    have e := flat_at cPD_len X j hj i hi
    have hlt : i < (cPD (X[j]'hj)).length := by rw [cPD_len]; exact hi
    rw [List.getElem?_eq_getElem hlt] at e ⊢
    rw [Nat.add_assoc]
    exact hcell _ _ e
  exact ⟨b, off, rfl, hb, g 0 (by omega), g 1 (by omega), g 2 (by omega), g 3 (by omega), g 4 (by omega), g 5 (by omega), g 6 (by omega)⟩
theorem LiesD.none_ {w w' : World} {v : Value} {X : List PD} (h : LiesD w v X) (t : turned w w' []) : LiesD w' v X := ⟨h.1.none_ t, h.2⟩


/-! ## bytes -/
def cB (x : Int) : List Value := [.int .u8 x]
theorem cB_len (x : Int) : (cB x).length = 1 := rfl
theorem cB_one (x : Int) : ∀ u, u ∈ cB x → u.oneCell' = true := by intro u hu; simp [cB] at hu; subst hu; rfl
def LiesB (w : World) (v : Value) (B : List Int) : Prop := Lies w 1 v B.length (flat cB B) ∧ ∀ x, x ∈ B → 0 ≤ x ∧ x < 256
theorem LiesB.none_ {w w' : World} {v : Value} {B : List Int} (h : LiesB w v B) (t : turned w w' []) : LiesB w' v B := ⟨h.1.none_ t, h.2⟩
theorem LiesB.cell {w : World} {a : Option Addr} {n cap : Nat} {B : List Int} (h : LiesB w (.slice a n cap) B) (j : Nat) (hj : j < B.length) : ∃ b off, a = some ⟨b, off, none⟩ ∧ b < w.heap.size ∧ w.cell? ⟨b, off + j, none⟩ = some (.int .u8 (B[j]'hj)) := by
  obtain ⟨⟨_, a', cap', e, _, _, hc⟩, _⟩ := h
  cases e
  obtain ⟨b, off, rfl, hb, hcell⟩ := hc (by omega)
  have e := flat_at cB_len B j hj 0 (by omega)
  rw [Nat.mul_one, Nat.add_zero] at e
  exact ⟨b, off, rfl, hb, hcell j _ e⟩
/-- The bytes of each piece. -/
def LiesF (w : World) (v : Value) (X : List PD) (Bs : List (List Int)) : Prop :=
  LiesD w v X ∧ Bs.length = X.length ∧ ∀ i (h : i < X.length) (h' : i < Bs.length), LiesB w (.slice (X[i]'h).ba (X[i]'h).bn (X[i]'h).bc) (Bs[i]'h')
theorem LiesF.none_ {w w' : World} {v : Value} {X : List PD} {Bs : List (List Int)} (h : LiesF w v X Bs) (t : turned w w' []) : LiesF w' v X Bs := ⟨h.1.none_ t, h.2.1, fun i a b => (h.2.2 i a b).none_ t⟩
theorem LiesB.len {w : World} {a : Option Addr} {n cap : Nat} {B : List Int} (h : LiesB w (.slice a n cap) B) : n = B.length := by
  obtain ⟨⟨_, a', cap', e, _⟩, _⟩ := h
  cases e; rfl
end Go.Proofs.Ytcfpgeceenkheaa
