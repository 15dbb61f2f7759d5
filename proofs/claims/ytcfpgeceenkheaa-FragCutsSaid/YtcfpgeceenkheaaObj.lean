/- Objects in memory (a block of known cells), what a call leaves of the rest, slices that came in: small lemmas over any program. No condition. -/
import Derived.Test.YtcfpgeceenkheaaBase
import Derived.Deep.Slices
import Derived.Deep.Fields
import Derived.Deep.QuietTactic
import Derived.BigQuiet
import Derived.StillTailTactics
import Derived.Deep.RegionHeld3
import Derived.Deep.RegionWith
import Derived.Deep.DeepCutAuto
namespace Go.Proofs.Ytcfpgeceenkheaa
open Go.ChangeShapes Go.WideShapes Go.RowKit Go.Deep
set_option linter.unusedVariables false
set_option linter.unusedSimpArgs false

/-- Block b of w is an object of type t, its cells these. -/
def obj (w : World) (b : Nat) (t : TypeId) (cs : List Value) : Prop := w.heap[b]? = some (.cells cs.toArray t (0, 0))

theorem obj.lt {w : World} {b : Nat} {t : TypeId} {cs : List Value} (h : obj w b t cs) : b < w.heap.size := lt_of_block h
theorem obj.cell {w : World} {b : Nat} {t : TypeId} {cs : List Value} (h : obj w b t cs) (i : Nat) {v : Value} (hv : cs[i]? = some v) : w.cell? ⟨b, i, none⟩ = some v := by
  unfold obj at h
  simp [World.cell?, h, hv]
theorem obj.free {w : World} {b : Nat} {t : TypeId} {cs : List Value} (h : obj w b t cs) (i : Nat) : w.frozen? ⟨b, i, none⟩ = false := by
  unfold obj at h
  simp [World.frozen?, h]
theorem obj.set {w : World} {b : Nat} {t : TypeId} {cs : List Value} (h : obj w b t cs) (i : Nat) (v : Value) : obj (w.setCell ⟨b, i, none⟩ v) b t (cs.set i v) := by
  have hlt := h.lt
  unfold obj at *
  have h' : w.heap[b] = .cells cs.toArray t (0, 0) := by simpa [Array.getElem?_eq_getElem hlt] using h
  show (w.heap.modify b _)[b]? = _
  rw [Array.getElem?_eq_getElem (by simpa using hlt), Array.getElem_modify_self, h']
  simp
theorem obj.setOther {w : World} {b : Nat} {t : TypeId} {cs : List Value} (h : obj w b t cs) {a : Addr} (hne : b ≠ a.block) (v : Value) : obj (w.setCell a v) b t cs := by
  unfold obj at *
  rw [Below.heap_setCell _ _ _ _ hne]
  exact h
theorem obj.alloc {w : World} {b : Nat} {t : TypeId} {cs : List Value} (h : obj w b t cs) (o : Obj) : obj (w.alloc o) b t cs := by
  have := h.lt
  unfold obj at *
  rw [Below.heap_alloc _ _ _ this]
  exact h
theorem obj.drew {w : World} {b : Nat} {t : TypeId} {cs : List Value} (h : obj w b t cs) : obj w.drew b t cs := h
theorem obj.drewN {w : World} {b : Nat} {t : TypeId} {cs : List Value} (h : obj w b t cs) (n : Nat) : obj (w.drewN n) b t cs := h
theorem obj.new (w : World) (t : TypeId) (cs : List Value) : obj (w.alloc (.cells cs.toArray t)) w.heap.size t cs := (MapKept.heap_alloc w _).1
theorem obj.kept {w w' : World} {b : Nat} {t : TypeId} {cs : List Value} {row : Option Nat} (h : obj w b t cs) (hg : w.grownBy w' row) (hne : some b ≠ row) : obj w' b t cs :=
  (hg.block b h.lt hne).trans h
theorem obj.ne {w : World} {b c : Nat} {t u : TypeId} {cs ds : List Value} (h : obj w b t cs) (k : obj w c u ds) (htu : t ≠ u) : b ≠ c := by
  intro e
  subst e
  unfold obj at h k
  rw [h] at k
  simp only [Option.some.injEq, Obj.cells.injEq] at k
  exact htu k.2.1

/-! What a call leaves: all blocks but one are as they were. -/
theorem only_refl (w : World) (row : Option Nat) : w.grownBy w row := ⟨rfl, rfl, rfl, Nat.le_refl _, fun _ _ _ => rfl⟩
theorem only_trans {a b c : World} {row : Option Nat} (h : a.grownBy b row) (k : b.grownBy c row) : a.grownBy c row :=
  ⟨k.os.trans h.os, k.tape.trans h.tape, k.output.trans h.output, Nat.le_trans h.size k.size, fun i hi hn => (k.block i (Nat.lt_of_lt_of_le hi h.size) hn).trans (h.block i hi hn)⟩
theorem only_set {a w : World} {b i : Nat} (h : a.grownBy w (some b)) (v : Value) : a.grownBy (w.setCell ⟨b, i, none⟩ v) (some b) :=
  only_trans h ⟨rfl, rfl, rfl, by simp [World.setCell], fun k hk hn => Below.heap_setCell _ _ _ _ (fun e => hn (by rw [e]))⟩
/-- a store into a block that was not there -/
theorem only_setNew {a w : World} {row : Option Nat} {p : Addr} (h : a.grownBy w row) (hp : a.heap.size ≤ p.block) (v : Value) : a.grownBy (w.setCell p v) row := by
  refine ⟨h.os, h.tape, h.output, ?_, fun k hk hn => ?_⟩
  · simpa [World.setCell] using h.size
  · rw [Below.heap_setCell _ _ _ _ (by omega)]
    exact h.block k hk hn
theorem only_alloc {a w : World} {row : Option Nat} (h : a.grownBy w row) (o : Obj) : a.grownBy (w.alloc o) row :=
  only_trans h ⟨rfl, rfl, rfl, by simp, fun k hk _ => Below.heap_alloc _ _ _ hk⟩
theorem only_drew {a w : World} {row : Option Nat} (h : a.grownBy w row) : a.grownBy w.drew row := ⟨h.os, h.tape, h.output, h.size, h.block⟩
theorem only_drewN {a w : World} {row : Option Nat} (n : Nat) (h : a.grownBy w row) : a.grownBy (w.drewN n) row := ⟨h.os, h.tape, h.output, h.size, h.block⟩
theorem only_some {a w : World} (h : a.grownBy w none) (row : Option Nat) : a.grownBy w row := ⟨h.os, h.tape, h.output, h.size, fun k hk _ => h.block k hk (by simp)⟩
theorem only_cell {w w' : World} {c : Nat} (h : w.grownBy w' (some c)) {a : Addr} {v : Value} (hv : w.cell? a = some v) (hne : a.block ≠ c) : w'.cell? a = some v := by
  have hlt := World.block_lt_of_cell? _ _ hv
  rw [World.cell?_of_block (h.block a.block hlt (by simpa using hne))]
  exact hv
/-- what was written lies above the heap's size at the beginning -/
theorem below_only {W w w' : World} {b : Nat} (h : Below W.heap.size W w) (hg : w.grownBy w' (some b)) (hb : W.heap.size ≤ b) : Below W.heap.size W w' :=
  h.grown hg h.size (fun k e => by cases e; exact hb)
theorem below_none {W w w' : World} (h : Below W.heap.size W w) (hg : w.grownBy w' none) : Below W.heap.size W w' :=
  h.grown hg h.size (fun k e => by cases e)
theorem below_drewN {W w : World} (n : Nat) (h : Below W.heap.size W w) : Below W.heap.size W (w.drewN n) := ⟨h.os, h.tape, h.output, h.size, h.block⟩

/-! A slice that came in, its elements of sz cells each: 'c i j' is element i's cell j. -/
def IsSl (W : World) (v : Value) (n sz : Nat) (c : Nat → Nat → Value) : Prop :=
  ∃ a cap, v = .slice a n cap ∧ n ≤ cap ∧ cap ≤ 9223372036854775807 ∧ (n = 0 ∨ ∃ b off, a = some ⟨b, off, none⟩ ∧ b < W.heap.size ∧ ∀ i j, i < n → j < sz → W.cell? ⟨b, off + i * sz + j, none⟩ = some (c i j))

section
variable {H : Type} {enc : TypeId × Value → H} {P : Program} {W : World} {r : Reach} {base : Nat}

theorem addr_off {b off i j sz : Nat} : (((⟨b, off, none⟩ : Addr).add (i * sz)).add j) = ⟨b, off + i * sz + j, none⟩ := by
  unfold Addr.add
  by_cases hi : i * sz = 0 <;> by_cases hj : j = 0 <;> simp [hi, hj]

theorem isSl_congr {v : Value} {n sz : Nat} {c d : Nat → Nat → Value} (h : IsSl W v n sz c) (e : ∀ i j, i < n → j < sz → c i j = d i j) : IsSl W v n sz d := by
  obtain ⟨a, cap, h0, h1, h2, h3⟩ := h
  refine ⟨a, cap, h0, h1, h2, ?_⟩
  rcases h3 with h3 | ⟨b, off, h4, h5, h6⟩
  · exact Or.inl h3
  · exact Or.inr ⟨b, off, h4, h5, fun i j hi hj => by rw [h6 i j hi hj, e i j hi hj]⟩

theorem take1 {α : Type} (l : List α) (d : α) (j : Nat) (h : j < l.length) : (l.drop j).take 1 = [l.getD j d] := by
  rw [List.drop_eq_getElem_cons h, List.take_succ_cons, List.take_zero, List.getD, List.getElem?_eq_getElem h, Option.getD_some]

/-- A slice of structs, each field one cell. -/
theorem openSl {t e : TypeId} {fs : Array Field} (sz : Nat) {v : Value} {d : DataW H} {p : List MemPlace} (ht : P.underlying t = some (.slice e)) (he : P.underlying e = some (.struct fs))
    (hone : oneCellFields P fs = true) (hC : P.cellsOf e = sz) (hfs : fs.size = sz) (hpos : 0 < sz) (hv : Value.okWide P W r base t v) (h : DataW.Trod enc P W 0 (fun _ => true) true t v d p) :
    ∃ n V, IsSl W v n sz V ∧ ∀ i, i < n → ∀ j f, fs[j]? = some f → ∃ m y, DataW.trod enc P W 0 (fun _ => true) true m f.type [V i j] = some y := by
  subst hfs
  obtain ⟨a0, len0, cap0, rfl⟩ := okWide_slice ht hv
  obtain ⟨fuel, hf⟩ := h
  rcases open_slice ht (by simpa [Value.cells] using hf) with ⟨hcs, _⟩ | ⟨a, len, cap, m, n, D, Pl, hcs, _, hl, hm, hmm, _, hx⟩
  · simp only [List.cons.injEq, Value.slice.injEq, and_true] at hcs
    obtain ⟨rfl, rfl, rfl⟩ := hcs
    exact ⟨0, fun _ _ => .nilIface, ⟨none, 0, rfl, Nat.le_refl _, by omega, Or.inl rfl⟩, fun i hi => absurd hi (Nat.not_lt_zero i)⟩
  simp only [List.cons.injEq, Value.slice.injEq, and_true] at hcs
  obtain ⟨rfl, rfl, rfl⟩ := hcs
  simp only [if_true] at hmm
  subst hmm
  have hm' : m ≤ 9223372036854775807 := by simpa [maxLen] using hm
  have hone' := hone_of hone
  have each : ∀ i, i < m → ∃ c : Nat → Value, (∀ j, j < fs.size → W.cell? ((a.add (i * fs.size)).add j) = some (c j)) ∧
      ∀ j f, fs[j]? = some f → ∃ k y, DataW.trod enc P W 0 (fun _ => true) true k f.type [c j] = some y := by
    intro i hi
    obtain ⟨cs', h1, h2⟩ := hx i hi
    rw [hC] at h1
    obtain ⟨_, hlen, hcell⟩ := World.cells?_some h1
    obtain ⟨xs, k, _, _, _, hxl, hf'⟩ := DataW.trod_struct he h2
    refine ⟨fun j => cs'.getD j .nilIface, fun j hj => ?_, fun j f hj => ?_⟩
    · rw [hcell j hj, List.getElem?_eq_getElem (by omega)]
      simp [List.getD, List.getElem?_eq_getElem (show j < cs'.length by omega)]
    · obtain ⟨o1, o2⟩ := hone' j f hj
      have hlt : j < fs.size := (Array.getElem?_eq_some_iff.1 hj).1
      have g := hf' j f hj
      rw [o1, o2, List.getElem?_eq_getElem (by omega)] at g
      rw [take1 cs' .nilIface j (by omega)] at g
      exact ⟨k, xs[j], g⟩
  obtain ⟨c, hc⟩ := choose_lt each
  refine ⟨len0, c, ⟨some a, m, rfl, hl, hm', ?_⟩, fun i hi => (hc i (by omega)).2⟩
  by_cases h0 : len0 = 0
  · exact Or.inl h0
  right
  obtain ⟨b, off, spot⟩ := a
  have h00 := (hc 0 (by omega)).1 0 hpos
  have hsp : spot = none := by simpa [Addr.add] using World.cell?_spot h00
  subst hsp
  refine ⟨b, off, rfl, ?_, fun i j hi hj => ?_⟩
  · have := World.block_lt_of_cell? _ _ h00
    simpa [Addr.add] using this
  · rw [← addr_off]
    exact (hc i (by omega)).1 j hj

/-- A slice of plain one-cell elements. -/
theorem openSl1 {t e : TypeId} {v : Value} {d : DataW H} {p : List MemPlace} (ht : P.underlying t = some (.slice e)) (hC : P.cellsOf e = 1)
    (hv : Value.okWide P W r base t v) (h : DataW.Trod enc P W 0 (fun _ => true) true t v d p) :
    ∃ n V, IsSl W v n 1 V ∧ ∀ i, i < n → ∃ m y, DataW.trod enc P W 0 (fun _ => true) true m e [V i 0] = some y := by
  obtain ⟨a0, len0, cap0, rfl⟩ := okWide_slice ht hv
  obtain ⟨fuel, hf⟩ := h
  rcases open_slice ht (by simpa [Value.cells] using hf) with ⟨hcs, _⟩ | ⟨a, len, cap, m, n, D, Pl, hcs, _, hl, hm, hmm, _, hx⟩
  · simp only [List.cons.injEq, Value.slice.injEq, and_true] at hcs
    obtain ⟨rfl, rfl, rfl⟩ := hcs
    exact ⟨0, fun _ _ => .nilIface, ⟨none, 0, rfl, Nat.le_refl _, by omega, Or.inl rfl⟩, fun i hi => absurd hi (Nat.not_lt_zero i)⟩
  simp only [List.cons.injEq, Value.slice.injEq, and_true] at hcs
  obtain ⟨rfl, rfl, rfl⟩ := hcs
  simp only [if_true] at hmm
  subst hmm
  have hm' : m ≤ 9223372036854775807 := by simpa [maxLen] using hm
  have each : ∀ i, i < m → ∃ c : Value, W.cell? ((a.add (i * 1)).add 0) = some c ∧ ∃ k y, DataW.trod enc P W 0 (fun _ => true) true k e [c] = some y := by
    intro i hi
    obtain ⟨cs', h1, h2⟩ := hx i hi
    rw [hC] at h1
    obtain ⟨_, hlen, hcell⟩ := World.cells?_some h1
    match cs', hlen with
    | [c], _ =>
      exact ⟨c, by simpa using hcell 0 (by omega), n, _, h2⟩
  have inh : Inhabited Value := ⟨.nilIface⟩
  obtain ⟨c, hc⟩ := choose_lt each
  refine ⟨len0, fun i _ => c i, ⟨some a, m, rfl, hl, hm', ?_⟩, fun i hi => (hc i (by omega)).2⟩
  by_cases h0 : len0 = 0
  · exact Or.inl h0
  right
  obtain ⟨b, off, spot⟩ := a
  have h00 := (hc 0 (by omega)).1
  have hsp : spot = none := by simpa [Addr.add] using World.cell?_spot h00
  subst hsp
  refine ⟨b, off, rfl, ?_, fun i j hi hj => ?_⟩
  · have := World.block_lt_of_cell? _ _ h00
    simpa [Addr.add] using this
  · have : j = 0 := by omega
    subst this
    rw [← addr_off]
    exact (hc i (by omega)).1

/-- A struct by value, each field one cell. -/
theorem openAgg {t : TypeId} {fs : Array Field} (sz : Nat) {v : Value} {d : DataW H} {p : List MemPlace} (he : P.underlying t = some (.struct fs))
    (hone : oneCellFields P fs = true) (hC : P.cellsOf t = sz) (hfs : fs.size = sz) (hv : Value.okWide P W r base t v) (h : DataW.Trod enc P W 0 (fun _ => true) true t v d p) :
    ∃ cs : List Value, v = .agg cs.toArray ∧ cs.length = sz ∧ ∀ j f, fs[j]? = some f → ∃ m y, DataW.trod enc P W 0 (fun _ => true) true m f.type [cs.getD j .nilIface] = some y := by
  subst hfs
  obtain ⟨cs, rfl, hsz⟩ := okWide_struct he hv
  rw [hC] at hsz
  obtain ⟨fuel, hf⟩ := h
  have hone' := hone_of hone
  obtain ⟨xs, k, _, _, _, hxl, hf'⟩ := DataW.trod_struct he (by simpa [Value.cells] using hf)
  refine ⟨cs.toList, by simp, by simpa using hsz, fun j f hj => ?_⟩
  obtain ⟨o1, o2⟩ := hone' j f hj
  have hlt : j < fs.size := (Array.getElem?_eq_some_iff.1 hj).1
  have g := hf' j f hj
  rw [o1, o2, List.getElem?_eq_getElem (by omega)] at g
  rw [take1 cs.toList .nilIface j (by simp; omega)] at g
  exact ⟨k, xs[j], g⟩

theorem trod_int1 {t : TypeId} {k : IntKind} {m : Nat} {v : Value} {y : DataW H × List MemPlace} (ht : P.underlying t = some (.int k)) (h : DataW.trod enc P W 0 (fun _ => true) true m t [v] = some y) :
    ∃ x : Int, v = .int k x ∧ (Lit.int k x).wf = true := by
  obtain ⟨x, e, _, w⟩ := DataW.trod_int ht h
  simp only [List.cons.injEq, and_true] at e
  exact ⟨x, e, w⟩
theorem trod_bool1 {t : TypeId} {m : Nat} {v : Value} {y : DataW H × List MemPlace} (ht : P.underlying t = some .bool) (h : DataW.trod enc P W 0 (fun _ => true) true m t [v] = some y) :
    ∃ x : Bool, v = .bool x := by
  obtain ⟨x, e, _⟩ := DataW.trod_bool ht h
  simp only [List.cons.injEq, and_true] at e
  exact ⟨x, e⟩
end

/-- A cell of a slice that came in, read in a later world. -/
theorem sl_cell {W w : World} {b off i j sz : Nat} {v : Value} (h : W.cell? ⟨b, off + i * sz + j, none⟩ = some v) (hb : b < W.heap.size) (hbel : Below W.heap.size W w) : w.cell? ⟨b, off + i * sz + j, none⟩ = some v :=
  (hbel.cell (p := ⟨b, off + i * sz + j, none⟩) hb).trans h

/-- A drawn region whose operations read or call quietly, all but the last ones: its world under a name of its own. -/
theorem region_tail {P : Program} {id : Nat} {Q : Exit → Act → World → Prop} {a : Act} {w : World} {l : List Oper} (n : Nat) (hm : P.follows .mixedOrders = true) (hB : Region.lexTailB .any l.toArray n = true)
    (wd : World) (hwd : wd = w.drew) (h : wpStill P l.toArray wd (fun a' => wpList P l.toArray Q (l.drop n) a' wd) (l.take n) a) : (Code.region id l.toArray true).wp P Q a w := by
  subst hwd
  exact wp_region_still_tail n hm hB h
theorem obj_val {w : World} {b : Nat} {t : TypeId} {cs ds : List Value} (h : obj w b t cs) (e : cs = ds) : obj w b t ds := by rw [← e]; exact h
theorem calls_flip {P : Program} {f : FuncId} {args : Array Value} {w : World} {v : Value} (h : Calls P f args w fun e w' => e = .returned v ∧ w = w') : Calls P f args w fun e w' => e = .returned v ∧ w' = w :=
  h.mono fun _ _ ⟨h1, h2⟩ => ⟨h1, h2.symm⟩

end Go.Proofs.Ytcfpgeceenkheaa
