/- Pieces of one maker are whole. Conditions: named. -/
import Derived.Test.YtcfpgeceenkheaaFragMade
namespace Go.Proofs.Ytcfpgeceenkheaa
open Go.RowKit
set_option linter.unusedVariables false
set_option linter.unusedSimpArgs false

/-- A piece that fits at its place. -/
structure fits (X : List PD) (x0 : PD) (j : Nat) (x : PD) : Prop where
  f : x.f = decide (j = 0)
  l : x.l = decide (j + 1 = X.length)
  b : x.bn ≠ 0
  s : x.s = x0.s
  n : x.n = x0.n
  u : x.u = x0.u
def whole (X : List PD) : Prop := ∃ h : 0 < X.length, ∀ j (hj : j < X.length), fits X (X[0]'h) j (X[j]'hj)
def noMsg : Value := .tuple #[.agg #[.int .u16 0, .bool false, .slice none 0 0], .bool false]
def theMsg (x0 : PD) (sv : Value) : Value := .tuple #[.agg #[.int .u16 x0.s, .bool (!x0.u), sv], .bool true]
def Joined (w : World) (X : List PD) (Bs : List (List Int)) (e : Ending) (w' : World) : Prop :=
  ((∃ h : 0 < X.length, whole X ∧ ∃ a c, e = .returned (theMsg (X[0]'h) (.slice a Bs.flatten.length c)) ∧ w'.ownsRow w.heap.size 5 1 (.slice a Bs.flatten.length c) Bs.flatten.length (flat cB Bs.flatten)) ∨ (¬ whole X ∧ e = .returned noMsg)) ∧ turned w w' []

def bytes (B : List Int) : Prop := ∀ x, x ∈ B → 0 ≤ x ∧ x < 256
theorem bit_bytes {B : List Int} (h : bytes B) (most k : Nat) : bytes (bit B most k) := fun x hx => h x (List.mem_of_mem_drop (List.mem_of_mem_take hx))
theorem flat_bits (B : List Int) (most : Nat) : ∀ q, ((List.range q).map (bit B most)).flatten = B.take (q * most)
  | 0 => by simp
  | q + 1 => by
    rw [range_snoc, List.map_append, List.flatten_append, flat_bits B most q]
    simp only [List.map_cons, List.map_nil, List.flatten_cons, List.flatten_nil, List.append_nil]
    unfold bit
    rw [Nat.add_mul, Nat.one_mul, List.take_add]
theorem bits_all (B : List Int) (most q : Nat) (h : B.length ≤ q * most) : ((List.range q).map (bit B most)).flatten = B := by
  rw [flat_bits, List.take_of_length_le h]
theorem bits_at (B : List Int) (most q i : Nat) (h : i < ((List.range q).map (bit B most)).length) : ((List.range q).map (bit B most))[i]'h = bit B most i := by simp
theorem bits_len (B : List Int) (most q : Nat) : ((List.range q).map (bit B most)).length = q := by simp
theorem row_n {w : World} {base n : Nat} {e : TypeId} {sz m : Nat} {a : Option Addr} {c : Nat} {xs : List Value} (h : w.ownsRow base e sz (.slice a m c) n xs) : m = n := by
  obtain ⟨a', c', e', _⟩ := row_form h
  cases e'
  rfl
theorem rowB_lies {w : World} {n₀ : Nat} {x : PD} {B : List Int} (h : rowB w n₀ x B) (hB : bytes B) : LiesB w (.slice x.ba x.bn x.bc) B := ⟨Lies.row h.1, hB⟩
theorem Made.bn {n₀ : Nat} {w : World} {v : Value} {X : List PD} {Bs : List (List Int)} (h : Made n₀ w v X Bs) (i : Nat) (hi : i < X.length) (hi' : i < Bs.length) : (X[i]'hi).bn = (Bs[i]'hi').length := row_n (h.2.2.1 i hi hi').1
theorem shapedL.ok {s own : Int} {u : Bool} {X : List PD} (h : shapedL s own u X) (hs : 0 ≤ s ∧ s < 65536) (ho : 0 ≤ own ∧ own < 65536) : ∀ x, x ∈ X → x.ok := by
  intro x hx
  obtain ⟨i, hi, rfl⟩ := List.getElem_of_mem hx
  rw [h i hi]
  exact ⟨by show (0 : Int) ≤ 0; omega, by show (0 : Int) < 4294967296; omega, hs.1, hs.2, ho.1, ho.2⟩
theorem Made.lies {n₀ : Nat} {w : World} {v : Value} {X : List PD} {Bs : List (List Int)} (h : Made n₀ w v X Bs) (hok : ∀ x, x ∈ X → x.ok) (hb : ∀ B, B ∈ Bs → bytes B) : LiesF w v X Bs :=
  ⟨⟨Lies.row h.1, hok⟩, h.2.1, fun i hi hi' => rowB_lies (h.2.2.1 i hi hi') (hb _ (List.getElem_mem hi'))⟩
theorem bits_bytes {B : List Int} (h : bytes B) (most q : Nat) : ∀ b, b ∈ (List.range q).map (bit B most) → bytes b := by
  intro b hb
  obtain ⟨k, _, rfl⟩ := List.mem_map.1 hb
  exact bit_bytes h most k
/-- Pieces as they come out are whole. -/
theorem whole_of {s own : Int} {u : Bool} {X : List PD} (h : shapedL s own u X) (h0 : 0 < X.length) (hb : ∀ i (hi : i < X.length), (X[i]'hi).bn ≠ 0) : whole X := by
  refine ⟨h0, fun j hj => ?_⟩
  have e0 := h 0 h0
  have ej := h j hj
  have hbj := hb j hj
  revert hbj
  generalize X[0] = y at *
  generalize X[j] = z at *
  intro hbj
  rw [ej] at hbj ⊢
  rw [e0]
  exact ⟨rfl, rfl, hbj, rfl, rfl, rfl⟩
theorem bit_pos {B : List Int} {most k : Nat} (hm : 1 ≤ most) (h : k * most < B.length) : 0 < (bit B most k).length := by
  rw [bit_len]
  unfold pieceLen
  omega
end Go.Proofs.Ytcfpgeceenkheaa
