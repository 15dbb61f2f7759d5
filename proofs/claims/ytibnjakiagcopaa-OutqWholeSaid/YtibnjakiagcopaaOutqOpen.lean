/- What came in: bytes; messages; things done with a queue. No condition. -/
import Derived.Test.YtibnjakiagcopaaOpen
import Derived.Test.YtibnjakiagcopaaPiece
namespace Go.Proofs.Ytibnjakiagcopaa
open Go.ChangeShapes Go.WideShapes Go.RowKit Go.Deep
set_option linter.unusedVariables false
set_option linter.unusedSimpArgs false

/-- A slice of bytes. -/
theorem trod_bytes {H : Type} {enc : TypeId × Value → H} {W : World} {m : Nat} {v : Value} {y : DataW H × List MemPlace} (h : DataW.trod enc Try.prog W 0 (fun _ => true) true m 29 [v] = some y) : ∃ B, LiesB W v B := by
  obtain ⟨n, V, hsl, hV⟩ := openSl1T Try.underlying29 (by kernel_rfl) h
  have e0 : ∀ i, i < n → ∃ c : Int, V i 0 = .int .u8 c ∧ (Lit.int .u8 c).wf = true := fun i hi => by
    obtain ⟨m, y, hy⟩ := hV i hi
    exact trod_int1 Try.underlying5 hy
  obtain ⟨f0, h0⟩ := choose_lt e0
  refine ⟨(List.range n).map f0, ?_, ?_⟩
  · have := isSl_lies cB cB_len f0 hsl (fun i j hi hj => by
      match j, hj with
      | 0, _ => rw [(h0 i hi).1]; rfl)
    rw [List.length_map, List.length_range]
    exact this
  · intro x hx
    simp only [List.mem_map, List.mem_range] at hx
    obtain ⟨i, hi, rfl⟩ := hx
    exact wf_u8_range (h0 i hi).2
theorem opened29 {H : Type} {enc : TypeId × Value → H} {W : World} {r : Reach} {base : Nat} {v : Value} {d : DataW H} {p : List MemPlace}
    (hv : Value.okWide Try.prog W r base 29 v) (h : DataW.Trod enc Try.prog W 0 (fun _ => true) true 29 v d p) : ∃ B, LiesB W v B := by
  obtain ⟨a0, len0, cap0, rfl⟩ := okWide_slice Try.underlying29 hv
  obtain ⟨fuel, hf⟩ := h
  exact trod_bytes (by simpa [Value.cells] using hf)
section
variable {H : Type} {enc : TypeId × Value → H} {P : Program} {W : World} {r : Reach} {base : Nat}
/-- A slice of elements, whole. -/
theorem openSlG {t e : TypeId} (sz : Nat) {v : Value} {d : DataW H} {p : List MemPlace} (ht : P.underlying t = some (.slice e)) (hC : P.cellsOf e = sz) (hpos : 0 < sz) (hv : Value.okWide P W r base t v) (h : DataW.Trod enc P W 0 (fun _ => true) true t v d p) :
    ∃ n, ∃ C : Nat → List Value, IsSl W v n sz (fun i j => (C i).getD j .nilIface) ∧ ∀ i, i < n → (C i).length = sz ∧ ∃ m y, DataW.trod enc P W 0 (fun _ => true) true m e (C i) = some y := by
  obtain ⟨a0, len0, cap0, rfl⟩ := okWide_slice ht hv
  obtain ⟨fuel, hf⟩ := h
  rcases open_slice ht (by simpa [Value.cells] using hf) with ⟨hcs, _⟩ | ⟨a, len, cap, m, n, D, Pl, hcs, _, hl, hm, hmm, _, hx⟩
  · simp only [List.cons.injEq, Value.slice.injEq, and_true] at hcs
    obtain ⟨rfl, rfl, rfl⟩ := hcs
    exact ⟨0, fun _ => [], ⟨none, 0, rfl, Nat.le_refl _, by omega, Or.inl rfl⟩, fun i hi => absurd hi (Nat.not_lt_zero i)⟩
  simp only [List.cons.injEq, Value.slice.injEq, and_true] at hcs
  obtain ⟨rfl, rfl, rfl⟩ := hcs
  simp only [if_true] at hmm
  subst hmm
  have hm' : m ≤ 9223372036854775807 := by simpa [maxLen] using hm
  have each : ∀ i, i < m → ∃ c : List Value, (∀ j, j < sz → W.cell? ((a.add (i * sz)).add j) = some (c.getD j .nilIface)) ∧ c.length = sz ∧ ∃ k y, DataW.trod enc P W 0 (fun _ => true) true k e c = some y := by
    intro i hi
    obtain ⟨cs', h1, h2⟩ := hx i hi
    rw [hC] at h1
    obtain ⟨_, hlen, hcell⟩ := World.cells?_some h1
    refine ⟨cs', fun j hj => ?_, hlen, n, _, h2⟩
    rw [hcell j hj, List.getElem?_eq_getElem (by omega)]
    simp [List.getD, List.getElem?_eq_getElem (show j < cs'.length by omega)]
  have inh : Inhabited (List Value) := ⟨[]⟩
  obtain ⟨c, hc⟩ := choose_lt each
  refine ⟨len0, c, ⟨some a, m, rfl, hl, hm', ?_⟩, fun i hi => (hc i (by omega)).2⟩
  by_cases h0 : len0 = 0
  · exact Or.inl h0
  right
  obtain ⟨b, off, spot⟩ := a
  have h00 := (hc 0 (by omega)).1 0 hpos
  have hsp : spot = none := by simpa [Addr.add] using World.cell?_spot h00
  subst hsp
  refine ⟨b, off, rfl, ?_, fun i j hi hj => ?_⟩
  · have := World.block_lt_of_cell? _ _ h00
    simpa [Addr.add] using this
  · rw [← addr_off]
    exact (hc i (by omega)).1 j hj
end
/-- A message in memory: stream, ordered, its bytes' slice. -/
structure MD where
  (s : Int) (o : Bool) (ba : Option Addr) (bn bc : Nat)
def cMD (x : MD) : List Value := [.int .u16 x.s, .bool x.o, .slice x.ba x.bn x.bc]
theorem cMD_len (x : MD) : (cMD x).length = 3 := rfl
theorem trod_msg {H : Type} {enc : TypeId × Value → H} {W : World} {m : Nat} {cs : List Value} {y : DataW H × List MemPlace} (hl : cs.length = 3) (h : DataW.trod enc Try.prog W 0 (fun _ => true) true m 31 cs = some y) : ∃ x : MD × List Int, cs = cMD x.1 ∧ (0 ≤ x.1.s ∧ x.1.s < 65536) ∧ LiesB W (.slice x.1.ba x.1.bn x.1.bc) x.2 := by
  obtain ⟨xs, k, _, _, _, hxl, hf⟩ := DataW.trod_struct Try.underlying31 h
  match cs, hl with
  | [c0, c1, c2], _ =>
    have g0 := hf 0 _ rfl
    have g1 := hf 1 _ rfl
    have g2 := hf 2 _ rfl
    have hx : xs.length = 3 := hxl
    rw [List.getElem?_eq_getElem (show 0 < xs.length by omega)] at g0
    rw [List.getElem?_eq_getElem (show 1 < xs.length by omega)] at g1
    rw [List.getElem?_eq_getElem (show 2 < xs.length by omega)] at g2
    obtain ⟨s, es, ws⟩ := trod_int1 (v := c0) Try.underlying22 g0
    obtain ⟨o, eo⟩ := trod_bool1 (v := c1) Try.underlying4 g1
    obtain ⟨a, n, c, ec⟩ := trod_slice1 (v := c2) Try.underlying29 g2
    obtain ⟨B, hB⟩ := trod_bytes (v := c2) g2
    subst es eo ec
    exact ⟨(⟨s, o, a, n, c⟩, B), rfl, wf_u16_range ws, hB⟩
/-- A thing done: kind, message, until, number. -/
structure OD where
  (k : Int) (m : MD) (un n : Int)
def cOD (x : OD) : List Value := [.int .i64 x.k, .int .u16 x.m.s, .bool x.m.o, .slice x.m.ba x.m.bn x.m.bc, .int .i64 x.un, .int .i64 x.n]
theorem cOD_len (x : OD) : (cOD x).length = 6 := rfl
structure OD.ok (x : OD) : Prop where
  s0 : 0 ≤ x.m.s
  s1 : x.m.s < 65536
  k0 : -9223372036854775808 ≤ x.k
  k1 : x.k ≤ 9223372036854775807
  u0 : -9223372036854775808 ≤ x.un
  u1 : x.un ≤ 9223372036854775807
  n0 : -9223372036854775808 ≤ x.n
  n1 : x.n ≤ 9223372036854775807
theorem trod_op {H : Type} {enc : TypeId × Value → H} {W : World} {m : Nat} {cs : List Value} {y : DataW H × List MemPlace} (hl : cs.length = 6) (h : DataW.trod enc Try.prog W 0 (fun _ => true) true m 51 cs = some y) : ∃ x : OD × List Int, cs = cOD x.1 ∧ x.1.ok ∧ LiesB W (.slice x.1.m.ba x.1.m.bn x.1.m.bc) x.2 := by
  obtain ⟨xs, k, _, _, _, hxl, hf⟩ := DataW.trod_struct Try.underlying51 h
  match cs, hl with
  | [c0, c1, c2, c3, c4, c5], _ =>
    have g0 := hf 0 _ rfl
    have g1 := hf 1 _ rfl
    have g2 := hf 2 _ rfl
    have g3 := hf 3 _ rfl
    have hx : xs.length = 4 := hxl
    rw [List.getElem?_eq_getElem (show 0 < xs.length by omega)] at g0
    rw [List.getElem?_eq_getElem (show 1 < xs.length by omega)] at g1
    rw [List.getElem?_eq_getElem (show 2 < xs.length by omega)] at g2
    rw [List.getElem?_eq_getElem (show 3 < xs.length by omega)] at g3
    obtain ⟨kk, e0, w0⟩ := trod_int1 (v := c0) Try.underlying3 g0
    obtain ⟨⟨md, B⟩, e1, w1, hB⟩ := trod_msg (cs := [c1, c2, c3]) rfl g1
    obtain ⟨uu, e2, w2⟩ := trod_int1 (v := c4) Try.underlying2 g2
    obtain ⟨nn, e3, w3⟩ := trod_int1 (v := c5) Try.underlying3 g3
    simp only [cMD, List.cons.injEq, and_true] at e1
    obtain ⟨e4, e5, e6⟩ := e1
    subst e0 e2 e3 e4 e5 e6
    have r0 := wf_i64_range w0
    have r2 := wf_i64_range w2
    have r3 := wf_i64_range w3
    exact ⟨(⟨kk, md, uu, nn⟩, B), rfl, ⟨w1.1, w1.2, r0.1, r0.2, r2.1, r2.2, r3.1, r3.2⟩, hB⟩
theorem opened51 {H : Type} {enc : TypeId × Value → H} {W : World} {r : Reach} {base : Nat} {v : Value} {d : DataW H} {p : List MemPlace}
    (hv : Value.okWide Try.prog W r base 51 v) (h : DataW.Trod enc Try.prog W 0 (fun _ => true) true 51 v d p) : ∃ x : OD × List Int, v = .agg (cOD x.1).toArray ∧ x.1.ok ∧ LiesB W (.slice x.1.m.ba x.1.m.bn x.1.m.bc) x.2 := by
  obtain ⟨cs, rfl, hsz⟩ := okWide_struct Try.underlying51 hv
  have hC : Try.prog.cellsOf 51 = 6 := by kernel_rfl
  rw [hC] at hsz
  obtain ⟨fuel, hf⟩ := h
  obtain ⟨x, e, h1, h2⟩ := trod_op (cs := cs.toList) (by simpa using hsz) (by simpa [Value.cells] using hf)
  exact ⟨x, by rw [← e], h1, h2⟩
/-- Messages in memory. -/
def LiesM (W : World) (v : Value) (X : List MD) (Bs : List (List Int)) : Prop :=
  Lies W 3 v X.length (flat cMD X) ∧ (∀ x, x ∈ X → 0 ≤ x.s ∧ x.s < 65536) ∧ Bs.length = X.length ∧ ∀ i (h : i < X.length) (h' : i < Bs.length), LiesB W (.slice (X[i]'h).ba (X[i]'h).bn (X[i]'h).bc) (Bs[i]'h')
/-- Things done, in memory. -/
def LiesO (W : World) (v : Value) (X : List OD) (Bs : List (List Int)) : Prop :=
  Lies W 6 v X.length (flat cOD X) ∧ (∀ x, x ∈ X → x.ok) ∧ Bs.length = X.length ∧ ∀ i (h : i < X.length) (h' : i < Bs.length), LiesB W (.slice (X[i]'h).m.ba (X[i]'h).m.bn (X[i]'h).m.bc) (Bs[i]'h')
theorem opened54 {H : Type} {enc : TypeId × Value → H} {W : World} {r : Reach} {base : Nat} {v : Value} {d : DataW H} {p : List MemPlace}
    (hv : Value.okWide Try.prog W r base 54 v) (h : DataW.Trod enc Try.prog W 0 (fun _ => true) true 54 v d p) : ∃ X : List MD × List (List Int), LiesM W v X.1 X.2 := by
  obtain ⟨n, C, hsl, hC⟩ := openSlG 3 Try.underlying54 (by kernel_rfl) (by decide) hv h
  have e0 : ∀ i, i < n → ∃ x : MD × List Int, C i = cMD x.1 ∧ (0 ≤ x.1.s ∧ x.1.s < 65536) ∧ LiesB W (.slice x.1.ba x.1.bn x.1.bc) x.2 := fun i hi => by
    obtain ⟨hl, m, y, hy⟩ := hC i hi
    exact trod_msg hl hy
  have inh : Inhabited (MD × List Int) := ⟨(⟨0, false, none, 0, 0⟩, [])⟩
  obtain ⟨f, hf⟩ := choose_lt e0
  refine ⟨((List.range n).map (fun i => (f i).1), (List.range n).map (fun i => (f i).2)), ?_, ?_, by simp, ?_⟩
  · have := isSl_lies cMD cMD_len (fun i => (f i).1) hsl (fun i j hi hj => by
      rw [(hf i hi).1]
      match j, hj with
      | 0, _ => rfl
      | 1, _ => rfl
      | 2, _ => rfl)
    rw [List.length_map, List.length_range]
    exact this
  · intro x hx
    simp only [List.mem_map, List.mem_range] at hx
    obtain ⟨i, hi, rfl⟩ := hx
    exact (hf i hi).2.1
  · intro i hi hi'
    simp only [List.getElem_map, List.getElem_range]
    exact (hf i (by simpa using hi)).2.2
theorem opened42 {H : Type} {enc : TypeId × Value → H} {W : World} {r : Reach} {base : Nat} {v : Value} {d : DataW H} {p : List MemPlace}
    (hv : Value.okWide Try.prog W r base 42 v) (h : DataW.Trod enc Try.prog W 0 (fun _ => true) true 42 v d p) : ∃ X : List OD × List (List Int), LiesO W v X.1 X.2 := by
  obtain ⟨n, C, hsl, hC⟩ := openSlG 6 Try.underlying42 (by kernel_rfl) (by decide) hv h
  have e0 : ∀ i, i < n → ∃ x : OD × List Int, C i = cOD x.1 ∧ x.1.ok ∧ LiesB W (.slice x.1.m.ba x.1.m.bn x.1.m.bc) x.2 := fun i hi => by
    obtain ⟨hl, m, y, hy⟩ := hC i hi
    exact trod_op hl hy
  have inh : Inhabited (OD × List Int) := ⟨(⟨0, ⟨0, false, none, 0, 0⟩, 0, 0⟩, [])⟩
  obtain ⟨f, hf⟩ := choose_lt e0
  refine ⟨((List.range n).map (fun i => (f i).1), (List.range n).map (fun i => (f i).2)), ?_, ?_, by simp, ?_⟩
  · have := isSl_lies cOD cOD_len (fun i => (f i).1) hsl (fun i j hi hj => by
      rw [(hf i hi).1]
      match j, hj with
      | 0, _ => rfl
      | 1, _ => rfl
      | 2, _ => rfl
      | 3, _ => rfl
      | 4, _ => rfl
      | 5, _ => rfl)
    rw [List.length_map, List.length_range]
    exact this
  · intro x hx
    simp only [List.mem_map, List.mem_range] at hx
    obtain ⟨i, hi, rfl⟩ := hx
    exact (hf i hi).2.1
  · intro i hi hi'
    simp only [List.getElem_map, List.getElem_range]
    exact (hf i (by simpa using hi)).2.2
end Go.Proofs.Ytibnjakiagcopaa
