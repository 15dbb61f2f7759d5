/- What came in, field by field: slices within structs, rows of elements as lists. No condition. -/
import Derived.Test.YtcfpgeceenkheaaSlc
namespace Go.Proofs.Ytcfpgeceenkheaa
open Go.ChangeShapes Go.WideShapes Go.RowKit Go.Deep
set_option linter.unusedVariables false
set_option linter.unusedSimpArgs false

section
variable {H : Type} {enc : TypeId × Value → H} {P : Program} {W : World}
theorem trod_slice1 {t e : TypeId} {m : Nat} {v : Value} {y : DataW H × List MemPlace} (ht : P.underlying t = some (.slice e)) (h : DataW.trod enc P W 0 (fun _ => true) true m t [v] = some y) : ∃ a n c, v = .slice a n c := by
  rcases open_slice ht h with ⟨hcs, _⟩ | ⟨a, len, cap, m, n, D, Pl, hcs, _⟩
  · simp only [List.cons.injEq, and_true] at hcs
    exact ⟨_, _, _, hcs⟩
  · simp only [List.cons.injEq, and_true] at hcs
    exact ⟨_, _, _, hcs⟩
theorem openSlT {t e : TypeId} {fs : Array Field} (sz : Nat) {v : Value} {k0 : Nat} {y : DataW H × List MemPlace} (ht : P.underlying t = some (.slice e)) (he : P.underlying e = some (.struct fs))
    (hone : oneCellFields P fs = true) (hC : P.cellsOf e = sz) (hfs : fs.size = sz) (hpos : 0 < sz) (hf : DataW.trod enc P W 0 (fun _ => true) true k0 t [v] = some y) :
    ∃ n V, IsSl W v n sz V ∧ ∀ i, i < n → ∀ j f, fs[j]? = some f → ∃ m y, DataW.trod enc P W 0 (fun _ => true) true m f.type [V i j] = some y := by
  subst hfs
  rcases open_slice ht hf with ⟨hcs, _⟩ | ⟨a, len, cap, m, n, D, Pl, hcs, _, hl, hm, hmm, _, hx⟩
  · simp only [List.cons.injEq, and_true] at hcs
    subst hcs
    exact ⟨0, fun _ _ => .nilIface, ⟨none, 0, rfl, Nat.le_refl _, by omega, Or.inl rfl⟩, fun i hi => absurd hi (Nat.not_lt_zero i)⟩
  simp only [List.cons.injEq, and_true] at hcs
  subst hcs
  simp only [if_true] at hmm
  subst hmm
  have hm' : m ≤ 9223372036854775807 := by simpa [maxLen] using hm
  have hone' := hone_of hone
  have each : ∀ i, i < m → ∃ c : Nat → Value, (∀ j, j < fs.size → W.cell? ((a.add (i * fs.size)).add j) = some (c j)) ∧
      ∀ j f, fs[j]? = some f → ∃ k y, DataW.trod enc P W 0 (fun _ => true) true k f.type [c j] = some y := by
    intro i hi
    obtain ⟨cs', h1, h2⟩ := hx i hi
    rw [hC] at h1
    obtain ⟨_, hlen, hcell⟩ := World.cells?_some h1
    obtain ⟨xs, k, _, _, _, hxl, hf'⟩ := DataW.trod_struct he h2
    refine ⟨fun j => cs'.getD j .nilIface, fun j hj => ?_, fun j f hj => ?_⟩
    · rw [hcell j hj, List.getElem?_eq_getElem (by omega)]
      simp [List.getD, List.getElem?_eq_getElem (show j < cs'.length by omega)]
    · obtain ⟨o1, o2⟩ := hone' j f hj
      have hlt : j < fs.size := (Array.getElem?_eq_some_iff.1 hj).1
      have g := hf' j f hj
      rw [o1, o2, List.getElem?_eq_getElem (by omega)] at g
      rw [take1 cs' .nilIface j (by omega)] at g
      exact ⟨k, xs[j], g⟩
  obtain ⟨c, hc⟩ := choose_lt each
  refine ⟨len, c, ⟨some a, m, rfl, hl, hm', ?_⟩, fun i hi => (hc i (by omega)).2⟩
  by_cases h0 : len = 0
  · exact Or.inl h0
  right
  obtain ⟨b, off, spot⟩ := a
  have h00 := (hc 0 (by omega)).1 0 hpos
  have hsp : spot = none := by simpa [Addr.add] using World.cell?_spot h00
  subst hsp
  refine ⟨b, off, rfl, ?_, fun i j hi hj => ?_⟩
  · have := World.block_lt_of_cell? _ _ h00
    simpa [Addr.add] using this
  · rw [← addr_off]
    exact (hc i (by omega)).1 j hj
theorem openSl1T {t e : TypeId} {v : Value} {k0 : Nat} {y : DataW H × List MemPlace} (ht : P.underlying t = some (.slice e)) (hC : P.cellsOf e = 1)
    (hf : DataW.trod enc P W 0 (fun _ => true) true k0 t [v] = some y) :
    ∃ n V, IsSl W v n 1 V ∧ ∀ i, i < n → ∃ m y, DataW.trod enc P W 0 (fun _ => true) true m e [V i 0] = some y := by
  rcases open_slice ht hf with ⟨hcs, _⟩ | ⟨a, len, cap, m, n, D, Pl, hcs, _, hl, hm, hmm, _, hx⟩
  · simp only [List.cons.injEq, and_true] at hcs
    subst hcs
    exact ⟨0, fun _ _ => .nilIface, ⟨none, 0, rfl, Nat.le_refl _, by omega, Or.inl rfl⟩, fun i hi => absurd hi (Nat.not_lt_zero i)⟩
  simp only [List.cons.injEq, and_true] at hcs
  subst hcs
  simp only [if_true] at hmm
  subst hmm
  have hm' : m ≤ 9223372036854775807 := by simpa [maxLen] using hm
  have each : ∀ i, i < m → ∃ c : Value, W.cell? ((a.add (i * 1)).add 0) = some c ∧ ∃ k y, DataW.trod enc P W 0 (fun _ => true) true k e [c] = some y := by
    intro i hi
    obtain ⟨cs', h1, h2⟩ := hx i hi
    rw [hC] at h1
    obtain ⟨_, hlen, hcell⟩ := World.cells?_some h1
    match cs', hlen with
    | [c], _ =>
      exact ⟨c, by simpa using hcell 0 (by omega), n, _, h2⟩
  have inh : Inhabited Value := ⟨.nilIface⟩
  obtain ⟨c, hc⟩ := choose_lt each
  refine ⟨len, fun i _ => c i, ⟨some a, m, rfl, hl, hm', ?_⟩, fun i hi => (hc i (by omega)).2⟩
  by_cases h0 : len = 0
  · exact Or.inl h0
  right
  obtain ⟨b, off, spot⟩ := a
  have h00 := (hc 0 (by omega)).1
  have hsp : spot = none := by simpa [Addr.add] using World.cell?_spot h00
  subst hsp
  refine ⟨b, off, rfl, ?_, fun i j hi hj => ?_⟩
  · have := World.block_lt_of_cell? _ _ h00
    simpa [Addr.add] using this
  · have : j = 0 := by omega
    subst this
    rw [← addr_off]
    exact (hc i (by omega)).1
end

/-- A row of elements as a list. -/
theorem isSl_lies {α : Type} {W : World} {v : Value} {n sz : Nat} {V : Nat → Nat → Value} (c : α → List Value) (hc : ∀ x, (c x).length = sz) (x : Nat → α) (h : IsSl W v n sz V) (hV : ∀ i j, i < n → j < sz → (c (x i))[j]? = some (V i j)) :
    Lies W sz v n (flat c ((List.range n).map x)) := by
  obtain ⟨a, cap, rfl, h1, h2, h3⟩ := h
  refine ⟨by rw [flat_len hc, List.length_map, List.length_range], a, cap, rfl, h1, h2, fun hn => ?_⟩
  rcases h3 with h3 | ⟨b, off, rfl, hb, hcell⟩
  · omega
  refine ⟨b, off, rfl, hb, fun j u hu => ?_⟩
  have hj := (List.getElem?_eq_some_iff.1 hu).1
  rw [flat_len hc, List.length_map, List.length_range] at hj
  have hsz : 0 < sz := by
    rcases Nat.eq_zero_or_pos sz with h | h
    · subst h; simp at hj
    · exact h
  have e : j = j / sz * sz + j % sz := by rw [Nat.mul_comm]; exact (Nat.div_add_mod j sz).symm
  have hi : j / sz < n := Nat.div_lt_of_lt_mul (by rw [Nat.mul_comm]; exact hj)
  have hr : j % sz < sz := Nat.mod_lt _ hsz
  rw [e, flat_at hc _ _ (by simpa using hi) _ hr] at hu
  simp only [List.getElem_map, List.getElem_range] at hu
  rw [hV _ _ hi hr] at hu
  rw [e, ← Nat.add_assoc, ← hu]
  exact hcell _ _ hi hr
theorem wf_range {k : IntKind} {x : Int} (h : (Lit.int k x).wf = true) : k.min ≤ x ∧ x ≤ k.max := by
  have : (decide (k.min ≤ x) && decide (x ≤ k.max)) = true := h
  simpa using this
theorem wf_u16_range {x : Int} (h : (Lit.int .u16 x).wf = true) : 0 ≤ x ∧ x < 65536 := by
  have := wf_range h
  rw [show IntKind.u16.min = 0 by decide, show IntKind.u16.max = 65535 by decide] at this
  omega
theorem wf_u32_range {x : Int} (h : (Lit.int .u32 x).wf = true) : 0 ≤ x ∧ x < 4294967296 := by
  have := wf_range h
  rw [show IntKind.u32.min = 0 by decide, show IntKind.u32.max = 4294967295 by decide] at this
  omega
theorem wf_u8_range {x : Int} (h : (Lit.int .u8 x).wf = true) : 0 ≤ x ∧ x < 256 := by
  have := wf_range h
  rw [show IntKind.u8.min = 0 by decide, show IntKind.u8.max = 255 by decide] at this
  omega
theorem wf_i64_range {x : Int} (h : (Lit.int .i64 x).wf = true) : -9223372036854775808 ≤ x ∧ x ≤ 9223372036854775807 := by
  have := wf_range h
  rw [show IntKind.i64.min = -9223372036854775808 by decide, show IntKind.i64.max = 9223372036854775807 by decide] at this
  omega
theorem turned_below {w w' : World} (h : turned w w' []) : Below w.heap.size w w' := ⟨h.1, h.2.1, h.2.2.1, h.2.2.2.1, fun k hk => h.2.2.2.2 k hk (by simp)⟩
end Go.Proofs.Ytcfpgeceenkheaa
