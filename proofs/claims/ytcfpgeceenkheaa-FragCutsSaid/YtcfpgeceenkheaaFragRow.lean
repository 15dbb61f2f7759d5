/- Pieces in a row of the call's own, their bytes anywhere outside that row. Conditions: named. -/
import Derived.Test.YtcfpgeceenkheaaFragWorks
namespace Go.Proofs.Ytcfpgeceenkheaa
open Go.RowKit Go.Deep
set_option linter.unusedVariables false
set_option linter.unusedSimpArgs false

/-- A row of pieces in a block of its own; no piece's bytes lie in that block. -/
def RowF (n₀ : Nat) (w : World) (v : Value) (X : List PD) (Bs : List (List Int)) : Prop :=
  w.ownsRow n₀ 38 7 v X.length (flat cPD X) ∧ (∀ x, x ∈ X → x.ok) ∧ Bs.length = X.length ∧
    ∀ i (h : i < X.length) (h' : i < Bs.length), LiesB w (.slice (X[i]'h).ba (X[i]'h).bn (X[i]'h).bc) (Bs[i]'h') ∧ (0 < (Bs[i]'h').length → ∀ a, (X[i]'h).ba = some a → v.ownBlock ≠ some a.block)
theorem RowF.lies {n₀ : Nat} {w : World} {v : Value} {X : List PD} {Bs : List (List Int)} (h : RowF n₀ w v X Bs) : LiesF w v X Bs :=
  ⟨⟨Lies.row h.1, h.2.1⟩, h.2.2.1, fun i a b => (h.2.2.2 i a b).1⟩
theorem RowF.none_ {n₀ : Nat} {w w' : World} {v : Value} {X : List PD} {Bs : List (List Int)} (h : RowF n₀ w v X Bs) (t : turned w w' []) : RowF n₀ w' v X Bs :=
  ⟨row_past h.1 t (by simp), h.2.1, h.2.2.1, fun i a b => ⟨(h.2.2.2 i a b).1.none_ t, (h.2.2.2 i a b).2⟩⟩
theorem LiesB.set {w : World} {a : Option Addr} {n cap g i : Nat} {B : List Int} (h : LiesB w (.slice a n cap) B) (hg : 0 < B.length → ∀ p, a = some p → p.block ≠ g) (v : Value) : LiesB (w.setCell ⟨g, i, none⟩ v) (.slice a n cap) B := by
  refine ⟨?_, h.2⟩
  obtain ⟨⟨h0, a', cap', e, h1, h2, h3⟩, _⟩ := h
  cases e
  refine ⟨h0, a, cap, rfl, h1, h2, fun hn => ?_⟩
  obtain ⟨b, off, rfl, hb, hc⟩ := h3 hn
  refine ⟨b, off, rfl, by simpa [World.setCell] using hb, fun j u hu => ?_⟩
  have := hg hn _ rfl
  rw [World.cell?_of_block (Below.heap_setCell _ _ _ _ this)]
  exact hc j u hu
/-- One cell of the row turns; the piece may have other bytes then. -/
theorem RowF.turn {n₀ g cap n : Nat} {w : World} {X : List PD} {Bs : List (List Int)} (h : RowF n₀ w (.slice (some ⟨g, 0, none⟩) n cap) X Bs) (hn : n = X.length) (k : Nat) (hk : k < X.length) (j : Nat) (hj : j < 7) (v : Value) (x : PD) (hx : cPD x = (cPD (X[k]'hk)).set j v) (hok : x.ok)
    (B : List Int) (hB : LiesB w (.slice x.ba x.bn x.bc) B) (hB2 : 0 < B.length → ∀ a, x.ba = some a → a.block ≠ g) :
    RowF n₀ (w.setCell ⟨g, k * 7 + j, none⟩ v) (.slice (some ⟨g, 0, none⟩) n cap) (X.set k x) (Bs.set k B) := by
  subst hn
  have hr := (h.1.stored (k * 7 + j) v).1
  rw [flat_set cPD_len X k hk j hj v x hx] at hr
  refine ⟨by rw [List.length_set]; exact hr, fun y hy => ?_, by rw [List.length_set, List.length_set]; exact h.2.2.1, fun i hi hi' => ?_⟩
  · rcases List.mem_or_eq_of_mem_set hy with hy | rfl
    · exact h.2.1 y hy
    · exact hok
  · have hi0 : i < X.length := by simpa using hi
    have hi1 : i < Bs.length := by simpa using hi'
    by_cases e : k = i
    · subst e
      simp only [List.getElem_set_self]
      exact ⟨hB.set hB2 v, fun h0 a ea => by simp [Value.ownBlock]; exact fun e => hB2 h0 a ea e.symm⟩
    · simp only [List.getElem_set_ne e]
      have q := h.2.2.2 i hi0 hi1
      refine ⟨q.1.set (fun h0 p ep e => q.2 h0 p ep ?_) v, q.2⟩
      simp [Value.ownBlock, e]
/-- .. that keeps its bytes. -/
theorem RowF.turn' {n₀ g cap n : Nat} {w : World} {X : List PD} {Bs : List (List Int)} (h : RowF n₀ w (.slice (some ⟨g, 0, none⟩) n cap) X Bs) (hn : n = X.length) (k : Nat) (hk : k < X.length) (j : Nat) (hj : j < 7) (v : Value) (x : PD) (hx : cPD x = (cPD (X[k]'hk)).set j v) (hok : x.ok)
    (hb : x.ba = (X[k]'hk).ba) (hb2 : x.bn = (X[k]'hk).bn) (hb3 : x.bc = (X[k]'hk).bc) :
    RowF n₀ (w.setCell ⟨g, k * 7 + j, none⟩ v) (.slice (some ⟨g, 0, none⟩) n cap) (X.set k x) Bs := by
  have hkB : k < Bs.length := by rw [h.2.2.1]; exact hk
  have q := h.2.2.2 k hk hkB
  have := h.turn hn k hk j hj v x hx hok (Bs[k]'hkB) (by rw [hb, hb2, hb3]; exact q.1) (fun h0 a ea e => by
    rw [hb] at ea
    exact q.2 h0 a ea (by simp [Value.ownBlock, e]))
  rwa [List.set_getElem_self] at this
/-- A copy of a row. -/
theorem RowF.copy {base : Nat} {w w' : World} {v v' : Value} {X : List PD} {Bs : List (List Int)} (h : LiesF w v X Bs) (ho : w'.ownsRow base 38 7 v' X.length (flat cPD X)) (hg : turned w w' []) (hl : v'.ownBlock = none ∨ v'.ownBlock = some w.heap.size) : RowF base w' v' X Bs := by
  refine ⟨ho, h.1.2, h.2.1, fun i hi hi' => ⟨(h.2.2 i hi hi').none_ hg, fun h0 a ea e => ?_⟩⟩
  obtain ⟨b, off, eb, hb, _⟩ := (h.2.2 i hi hi').cell 0 h0
  rw [ea] at eb
  cases eb
  rcases hl with hl | hl
  · rw [hl] at e; cases e
  · rw [hl] at e
    simp at e
    omega
/-- What frag.Cut made. -/
theorem RowF.made {n₀ : Nat} {w : World} {v : Value} {X : List PD} {Bs : List (List Int)} (h : Made n₀ w v X Bs) (hl : LiesF w v X Bs) : RowF n₀ w v X Bs := by
  refine ⟨h.1, hl.1.2, hl.2.1, fun i hi hi' => ⟨hl.2.2 i hi hi', fun h0 a ea e => ?_⟩⟩
  have hr := h.2.2.1 i hi hi'
  exact rows_ne h.1 hr.1 (by decide) a.block e (by rw [ea]; rfl)
theorem flatten_set_nil {α : Type} : ∀ (L : List (List α)) (k : Nat), (L.set k []).flatten.length ≤ L.flatten.length
  | [], _ => by simp
  | x :: L, 0 => by simp
  | x :: L, k + 1 => by simp only [List.set_cons_succ, List.flatten_cons, List.length_append]; have := flatten_set_nil L k; omega
theorem bits_flat {B : List Int} {most q : Nat} (h : B.length ≤ q * most) : ((List.range q).map (bit B most)).flatten.length = B.length := by rw [bits_all B most q h]
/-- A piece without bytes: not whole. -/
theorem not_whole_nil {X : List PD} (k : Nat) (hk : k < X.length) (x : PD) (hx : x.bn = 0) : ¬ whole (X.set k x) := by
  rintro ⟨h, hw⟩
  have := (hw k (by simpa using hk)).b
  rw [List.getElem_set_self] at this
  exact this hx
theorem liesF_nil (w : World) : LiesF w (.slice none 0 0) [] [] := ⟨⟨Lies.nil _ _, fun x hx => by cases hx⟩, rfl, fun i h => by cases h⟩
theorem whole_nil : ¬ whole [] := fun ⟨h, _⟩ => absurd h (by simp)
end Go.Proofs.Ytcfpgeceenkheaa
