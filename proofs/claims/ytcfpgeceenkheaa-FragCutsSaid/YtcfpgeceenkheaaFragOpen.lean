/- Messages, pieces with their bytes, and small structures that came in. No condition. -/
import Derived.Test.YtcfpgeceenkheaaOpen
import Derived.Test.YtcfpgeceenkheaaFragPlain
namespace Go.Proofs.Ytcfpgeceenkheaa
open Go.ChangeShapes Go.WideShapes Go.RowKit Go.Deep
set_option linter.unusedVariables false
set_option linter.unusedSimpArgs false

/-- A slice of bytes. -/
theorem trod_bytes {H : Type} {enc : TypeId × Value → H} {W : World} {m : Nat} {v : Value} {y : DataW H × List MemPlace} (h : DataW.trod enc Try.prog W 0 (fun _ => true) true m 23 [v] = some y) : ∃ B, LiesB W v B := by
  obtain ⟨n, V, hsl, hV⟩ := openSl1T Try.underlying23 (by kernel_rfl) h
  have e0 : ∀ i, i < n → ∃ c : Int, V i 0 = .int .u8 c ∧ (Lit.int .u8 c).wf = true := fun i hi => by
    obtain ⟨m, y, hy⟩ := hV i hi
    exact trod_int1 Try.underlying5 hy
  obtain ⟨f0, h0⟩ := choose_lt e0
  refine ⟨(List.range n).map f0, ?_, ?_⟩
  · have := isSl_lies cB cB_len f0 hsl (fun i j hi hj => by
      match j, hj with
      | 0, _ => rw [(h0 i hi).1]; rfl)
    rw [List.length_map, List.length_range]
    exact this
  · intro x hx
    simp only [List.mem_map, List.mem_range] at hx
    obtain ⟨i, hi, rfl⟩ := hx
    exact wf_u8_range (h0 i hi).2
/-- A message, by value. -/
def IsMsg (W : World) (v : Value) (x : Int × Bool × List Int) : Prop := ∃ b, v = .agg #[.int .u16 x.1, .bool x.2.1, b] ∧ LiesB W b x.2.2 ∧ 0 ≤ x.1 ∧ x.1 < 65536
theorem opened25 {H : Type} {enc : TypeId × Value → H} {W : World} {r : Reach} {base : Nat} {v : Value} {d : DataW H} {p : List MemPlace}
    (hv : Value.okWide Try.prog W r base 25 v) (h : DataW.Trod enc Try.prog W 0 (fun _ => true) true 25 v d p) : ∃ x, IsMsg W v x := by
  obtain ⟨cs, rfl, hl, hf⟩ := openAgg 3 Try.underlying25 (by kernel_rfl) (by kernel_rfl) rfl hv h
  match cs, hl with
  | [c0, c1, c2], _ =>
    obtain ⟨m0, y0, g0⟩ := hf 0 _ rfl
    obtain ⟨m1, y1, g1⟩ := hf 1 _ rfl
    obtain ⟨m2, y2, g2⟩ := hf 2 _ rfl
    obtain ⟨a, ea, wa⟩ := trod_int1 Try.underlying22 g0
    obtain ⟨b, eb⟩ := trod_bool1 Try.underlying4 g1
    obtain ⟨B, hB⟩ := trod_bytes g2
    have r0 := wf_u16_range wa
    have e0 : c0 = .int .u16 a := ea
    have e1 : c1 = .bool b := eb
    exact ⟨(a, b, B), c2, by rw [e0, e1], hB, r0.1, r0.2⟩
theorem opened29 {H : Type} {enc : TypeId × Value → H} {W : World} {r : Reach} {base : Nat} {v : Value} {d : DataW H} {p : List MemPlace}
    (hv : Value.okWide Try.prog W r base 29 v) (h : DataW.Trod enc Try.prog W 0 (fun _ => true) true 29 v d p) : ∃ X : List PD × List (List Int), LiesF W v X.1 X.2 := by
  obtain ⟨n, V, hsl, hV⟩ := openSl 7 Try.underlying29 Try.underlying38 (by kernel_rfl) (by kernel_rfl) rfl (by decide) hv h
  have e0 : ∀ i, i < n → ∃ c : Int, V i 0 = .int .u32 c ∧ (Lit.int .u32 c).wf = true := fun i hi => by
    obtain ⟨m, y, hy⟩ := hV i hi 0 _ rfl
    exact trod_int1 Try.underlying36 hy
  have e1 : ∀ i, i < n → ∃ c : Int, V i 1 = .int .u16 c ∧ (Lit.int .u16 c).wf = true := fun i hi => by
    obtain ⟨m, y, hy⟩ := hV i hi 1 _ rfl
    exact trod_int1 Try.underlying22 hy
  have e2 : ∀ i, i < n → ∃ c : Int, V i 2 = .int .u16 c ∧ (Lit.int .u16 c).wf = true := fun i hi => by
    obtain ⟨m, y, hy⟩ := hV i hi 2 _ rfl
    exact trod_int1 Try.underlying22 hy
  have e3 : ∀ i, i < n → ∃ c : Bool, V i 3 = .bool c := fun i hi => by
    obtain ⟨m, y, hy⟩ := hV i hi 3 _ rfl
    exact trod_bool1 Try.underlying4 hy
  have e4 : ∀ i, i < n → ∃ c : Bool, V i 4 = .bool c := fun i hi => by
    obtain ⟨m, y, hy⟩ := hV i hi 4 _ rfl
    exact trod_bool1 Try.underlying4 hy
  have e5 : ∀ i, i < n → ∃ c : Bool, V i 5 = .bool c := fun i hi => by
    obtain ⟨m, y, hy⟩ := hV i hi 5 _ rfl
    exact trod_bool1 Try.underlying4 hy
  have e6 : ∀ i, i < n → ∃ c : (Option Addr × Nat × Nat) × List Int, V i 6 = .slice c.1.1 c.1.2.1 c.1.2.2 ∧ LiesB W (.slice c.1.1 c.1.2.1 c.1.2.2) c.2 := fun i hi => by
    obtain ⟨m, y, hy⟩ := hV i hi 6 _ rfl
    obtain ⟨a, n, c, e⟩ := trod_slice1 Try.underlying23 hy
    obtain ⟨B, hB⟩ := trod_bytes hy
    exact ⟨((a, n, c), B), e, e ▸ hB⟩
  obtain ⟨f0, h0⟩ := choose_lt e0
  obtain ⟨f1, h1⟩ := choose_lt e1
  obtain ⟨f2, h2⟩ := choose_lt e2
  obtain ⟨f3, h3⟩ := choose_lt e3
  obtain ⟨f4, h4⟩ := choose_lt e4
  obtain ⟨f5, h5⟩ := choose_lt e5
  obtain ⟨f6, h6⟩ := choose_lt e6
  refine ⟨((List.range n).map (fun i => ⟨f0 i, f1 i, f2 i, f3 i, f4 i, f5 i, (f6 i).1.1, (f6 i).1.2.1, (f6 i).1.2.2⟩), (List.range n).map (fun i => (f6 i).2)), ⟨?_, ?_⟩, by simp, ?_⟩
  · have := isSl_lies cPD cPD_len (fun i => (⟨f0 i, f1 i, f2 i, f3 i, f4 i, f5 i, (f6 i).1.1, (f6 i).1.2.1, (f6 i).1.2.2⟩ : PD)) hsl (fun i j hi hj => by
      match j, hj with
      | 0, _ => rw [(h0 i hi).1]; rfl
      | 1, _ => rw [(h1 i hi).1]; rfl
      | 2, _ => rw [(h2 i hi).1]; rfl
      | 3, _ => rw [h3 i hi]; rfl
      | 4, _ => rw [h4 i hi]; rfl
      | 5, _ => rw [h5 i hi]; rfl
      | 6, _ => rw [(h6 i hi).1]; rfl)
    show Lies _ _ _ (List.length (List.map _ _)) _
    rw [List.length_map, List.length_range]
    exact this
  · intro x hx
    simp only [List.mem_map, List.mem_range] at hx
    obtain ⟨i, hi, rfl⟩ := hx
    have r0 := wf_u32_range (h0 i hi).2
    have r1 := wf_u16_range (h1 i hi).2
    have r2 := wf_u16_range (h2 i hi).2
    exact ⟨r0.1, r0.2, r1.1, r1.2, r2.1, r2.2⟩
  · intro i hi hi'
    simp only [List.getElem_map, List.getElem_range]
    exact (h6 i (by simpa using hi)).2
/-- Words. -/
def cW (x : Int) : List Value := [.int .u32 x]
theorem cW_len (x : Int) : (cW x).length = 1 := rfl
def LiesW (w : World) (v : Value) (T : List Int) : Prop := Lies w 1 v T.length (flat cW T) ∧ ∀ x, x ∈ T → 0 ≤ x ∧ x < 4294967296
theorem opened53 {H : Type} {enc : TypeId × Value → H} {W : World} {r : Reach} {base : Nat} {v : Value} {d : DataW H} {p : List MemPlace}
    (hv : Value.okWide Try.prog W r base 53 v) (h : DataW.Trod enc Try.prog W 0 (fun _ => true) true 53 v d p) : ∃ T, LiesW W v T := by
  obtain ⟨n, V, hsl, hV⟩ := openSl1 Try.underlying53 (by kernel_rfl) hv h
  have e0 : ∀ i, i < n → ∃ c : Int, V i 0 = .int .u32 c ∧ (Lit.int .u32 c).wf = true := fun i hi => by
    obtain ⟨m, y, hy⟩ := hV i hi
    exact trod_int1 Try.underlying36 hy
  obtain ⟨f0, h0⟩ := choose_lt e0
  refine ⟨(List.range n).map f0, ?_, ?_⟩
  · have := isSl_lies cW cW_len f0 hsl (fun i j hi hj => by
      match j, hj with
      | 0, _ => rw [(h0 i hi).1]; rfl)
    rw [List.length_map, List.length_range]
    exact this
  · intro x hx
    simp only [List.mem_map, List.mem_range] at hx
    obtain ⟨i, hi, rfl⟩ := hx
    exact wf_u32_range (h0 i hi).2
/-- Two numbers of 16 bits; a number and two sizes. -/
def IsTwo (_ : World) (v : Value) (x : Int × Int) : Prop := v = .agg #[.int .u16 x.1, .int .u16 x.2] ∧ (0 ≤ x.1 ∧ x.1 < 65536) ∧ 0 ≤ x.2 ∧ x.2 < 65536
theorem opened50 {H : Type} {enc : TypeId × Value → H} {W : World} {r : Reach} {base : Nat} {v : Value} {d : DataW H} {p : List MemPlace}
    (hv : Value.okWide Try.prog W r base 50 v) (h : DataW.Trod enc Try.prog W 0 (fun _ => true) true 50 v d p) : ∃ x, IsTwo W v x := by
  obtain ⟨cs, rfl, hl, hf⟩ := openAgg 2 Try.underlying50 (by kernel_rfl) (by kernel_rfl) rfl hv h
  match cs, hl with
  | [c0, c1], _ =>
    obtain ⟨m0, y0, g0⟩ := hf 0 _ rfl
    obtain ⟨m1, y1, g1⟩ := hf 1 _ rfl
    obtain ⟨a, ea, wa⟩ := trod_int1 Try.underlying22 g0
    obtain ⟨b, eb, wb⟩ := trod_int1 Try.underlying22 g1
    have e0 : c0 = .int .u16 a := ea
    have e1 : c1 = .int .u16 b := eb
    exact ⟨(a, b), by rw [e0, e1], wf_u16_range wa, wf_u16_range wb⟩
def IsSizes (_ : World) (v : Value) (x : Int × Int × Int) : Prop := v = .agg #[.int .u16 x.1, .int .i64 x.2.1, .int .i64 x.2.2] ∧ (0 ≤ x.1 ∧ x.1 < 65536) ∧ (-9223372036854775808 ≤ x.2.1 ∧ x.2.1 ≤ 9223372036854775807) ∧ -9223372036854775808 ≤ x.2.2 ∧ x.2.2 ≤ 9223372036854775807
theorem opened46 {H : Type} {enc : TypeId × Value → H} {W : World} {r : Reach} {base : Nat} {v : Value} {d : DataW H} {p : List MemPlace}
    (hv : Value.okWide Try.prog W r base 46 v) (h : DataW.Trod enc Try.prog W 0 (fun _ => true) true 46 v d p) : ∃ x, IsSizes W v x := by
  obtain ⟨cs, rfl, hl, hf⟩ := openAgg 3 Try.underlying46 (by kernel_rfl) (by kernel_rfl) rfl hv h
  match cs, hl with
  | [c0, c1, c2], _ =>
    obtain ⟨m0, y0, g0⟩ := hf 0 _ rfl
    obtain ⟨m1, y1, g1⟩ := hf 1 _ rfl
    obtain ⟨m2, y2, g2⟩ := hf 2 _ rfl
    obtain ⟨a, ea, wa⟩ := trod_int1 Try.underlying22 g0
    obtain ⟨b, eb, wb⟩ := trod_int1 Try.underlying3 g1
    obtain ⟨c, ec, wc⟩ := trod_int1 Try.underlying3 g2
    have e0 : c0 = .int .u16 a := ea
    have e1 : c1 = .int .i64 b := eb
    have e2 : c2 = .int .i64 c := ec
    exact ⟨(a, b, c), by rw [e0, e1, e2], wf_u16_range wa, wf_i64_range wb, wf_i64_range wc⟩
end Go.Proofs.Ytcfpgeceenkheaa
