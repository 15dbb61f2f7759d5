/- What a call leaves: all blocks but those of a list are as they were; a reader's end. No condition. -/
import Derived.Test.YtcfpgeceenkheaaObj
namespace Go.Proofs.Ytcfpgeceenkheaa
open Go.RowKit
set_option linter.unusedVariables false
set_option linter.unusedSimpArgs false

/-- What a call leaves: all blocks but those of the list are as they were. -/
def turned (w w' : World) (L : List Nat) : Prop :=
  w'.os = w.os ∧ w'.tape = w.tape ∧ w'.output = w.output ∧ w.heap.size ≤ w'.heap.size ∧ ∀ k, k < w.heap.size → k ∉ L → w'.heap[k]? = w.heap[k]?
theorem turned_refl (w : World) (L : List Nat) : turned w w L := ⟨rfl, rfl, rfl, Nat.le_refl _, fun _ _ _ => rfl⟩
theorem turned_trans {a b c : World} {L : List Nat} (h : turned a b L) (k : turned b c L) : turned a c L :=
  ⟨k.1.trans h.1, k.2.1.trans h.2.1, k.2.2.1.trans h.2.2.1, Nat.le_trans h.2.2.2.1 k.2.2.2.1, fun i hi hn => (k.2.2.2.2 i (Nat.lt_of_lt_of_le hi h.2.2.2.1) hn).trans (h.2.2.2.2 i hi hn)⟩
theorem turned_more {a b : World} {L M : List Nat} (h : turned a b L) (hs : ∀ k, k ∈ L → k ∈ M) : turned a b M :=
  ⟨h.1, h.2.1, h.2.2.1, h.2.2.2.1, fun i hi hn => h.2.2.2.2 i hi (fun e => hn (hs i e))⟩
theorem turned_one {a b : World} {c : Nat} {L : List Nat} (h : a.grownBy b (some c)) (hc : c ∈ L) : turned a b L :=
  ⟨h.os, h.tape, h.output, h.size, fun i hi hn => h.block i hi (fun e => hn (by cases e; exact hc))⟩
theorem turned_none {a b : World} {L : List Nat} (h : a.grownBy b none) : turned a b L :=
  ⟨h.os, h.tape, h.output, h.size, fun i hi _ => h.block i hi (by simp)⟩
theorem turned_drewN (w : World) (n : Nat) (L : List Nat) : turned w (w.drewN n) L := ⟨rfl, rfl, rfl, Nat.le_refl _, fun _ _ _ => rfl⟩
theorem turned_drew (w : World) (L : List Nat) : turned w w.drew L := ⟨rfl, rfl, rfl, Nat.le_refl _, fun _ _ _ => rfl⟩
theorem turned_set {a w : World} {b i : Nat} {L : List Nat} (h : turned a w L) (hb : b ∈ L) (v : Value) : turned a (w.setCell ⟨b, i, none⟩ v) L :=
  turned_trans h (turned_one (only_set (only_refl w (some b)) v) hb)
theorem turned_drew' {a w : World} {L : List Nat} (h : turned a w L) : turned a w.drew L := h
theorem turned_drewN' {a w : World} {L : List Nat} (n : Nat) (h : turned a w L) : turned a (w.drewN n) L := h
theorem turned_alloc {a w : World} {L : List Nat} (h : turned a w L) (o : Obj) : turned a (w.alloc o) L := turned_trans h (turned_none (only_alloc (only_refl w none) o))
theorem obj.past {w w' : World} {b : Nat} {t : TypeId} {cs : List Value} {L : List Nat} (h : obj w b t cs) (hg : turned w w' L) (hb : b ∉ L) : obj w' b t cs :=
  (hg.2.2.2.2 b h.lt hb).trans h
theorem below_turned {W w w' : World} {L : List Nat} (h : Below W.heap.size W w) (hg : turned w w' L) (hL : ∀ k, k ∈ L → W.heap.size ≤ k) : Below W.heap.size W w' :=
  ⟨hg.1.trans h.os, hg.2.1.trans h.tape, hg.2.2.1.trans h.output, Nat.le_trans h.size hg.2.2.2.1,
    fun k hk => (hg.2.2.2.2 k (Nat.lt_of_lt_of_le hk h.size) (fun e => by have := hL k e; omega)).trans (h.block k hk)⟩
theorem turned_cell {w w' : World} {L : List Nat} (h : turned w w' L) {a : Addr} {v : Value} (hv : w.cell? a = some v) (hne : a.block ∉ L) : w'.cell? a = some v := by
  have hlt := World.block_lt_of_cell? _ _ hv
  rw [World.cell?_of_block (h.2.2.2.2 a.block hlt hne)]
  exact hv

theorem turned_grown {a b c : World} {row : Option Nat} {L : List Nat} (h : turned a b L) (g : b.grownBy c row) (hr : ∀ k, row = some k → k ∈ L ∨ a.heap.size ≤ k) : turned a c L :=
  ⟨g.os.trans h.1, g.tape.trans h.2.1, g.output.trans h.2.2.1, Nat.le_trans h.2.2.2.1 g.size, fun i hi hn =>
    (g.block i (Nat.lt_of_lt_of_le hi h.2.2.2.1) (fun e => by rcases hr i e.symm with m | m; exact hn m; omega)).trans (h.2.2.2.2 i hi hn)⟩
/-- A reader's end: the value, and draws alone. -/
def Reads (w : World) (v : Value) (e : Ending) (w' : World) : Prop := e = .returned v ∧ ∃ n, w' = w.drewN n
end Go.Proofs.Ytcfpgeceenkheaa
