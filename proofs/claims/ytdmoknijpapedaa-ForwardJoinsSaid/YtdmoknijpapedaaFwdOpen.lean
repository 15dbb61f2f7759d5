/- Pieces, and what is told, that came in. No condition. -/
import Derived.Test.YtdmoknijpapedaaOpen
import Derived.Test.YtdmoknijpapedaaFwdMake
namespace Go.Proofs.Ytdmoknijpapedaa
open Go.ChangeShapes Go.WideShapes Go.RowKit Go.Deep
set_option linter.unusedVariables false
set_option linter.unusedSimpArgs false

theorem opened23 {H : Type} {enc : TypeId × Value → H} {W : World} {r : Reach} {base : Nat} {v : Value} {d : DataW H} {p : List MemPlace}
    (hv : Value.okWide Try.prog W r base 23 v) (h : DataW.Trod enc Try.prog W 0 (fun _ => true) true 23 v d p) : ∃ X, LiesD W v X := by
  obtain ⟨n, V, hsl, hV⟩ := openSl 7 Try.underlying23 Try.underlying34 (by kernel_rfl) (by kernel_rfl) rfl (by decide) hv h
  have e0 : ∀ i, i < n → ∃ c : Int, V i 0 = .int .u32 c ∧ (Lit.int .u32 c).wf = true := fun i hi => by
    obtain ⟨m, y, hy⟩ := hV i hi 0 _ rfl
    exact trod_int1 Try.underlying22 hy
  have e1 : ∀ i, i < n → ∃ c : Int, V i 1 = .int .u16 c ∧ (Lit.int .u16 c).wf = true := fun i hi => by
    obtain ⟨m, y, hy⟩ := hV i hi 1 _ rfl
    exact trod_int1 Try.underlying31 hy
  have e2 : ∀ i, i < n → ∃ c : Int, V i 2 = .int .u16 c ∧ (Lit.int .u16 c).wf = true := fun i hi => by
    obtain ⟨m, y, hy⟩ := hV i hi 2 _ rfl
    exact trod_int1 Try.underlying31 hy
  have e3 : ∀ i, i < n → ∃ c : Bool, V i 3 = .bool c := fun i hi => by
    obtain ⟨m, y, hy⟩ := hV i hi 3 _ rfl
    exact trod_bool1 Try.underlying4 hy
  have e4 : ∀ i, i < n → ∃ c : Bool, V i 4 = .bool c := fun i hi => by
    obtain ⟨m, y, hy⟩ := hV i hi 4 _ rfl
    exact trod_bool1 Try.underlying4 hy
  have e5 : ∀ i, i < n → ∃ c : Bool, V i 5 = .bool c := fun i hi => by
    obtain ⟨m, y, hy⟩ := hV i hi 5 _ rfl
    exact trod_bool1 Try.underlying4 hy
  have e6 : ∀ i, i < n → ∃ c : Option Addr × Nat × Nat, V i 6 = .slice c.1 c.2.1 c.2.2 := fun i hi => by
    obtain ⟨m, y, hy⟩ := hV i hi 6 _ rfl
    obtain ⟨a, n, c, e⟩ := trod_slice1 Try.underlying32 hy
    exact ⟨(a, n, c), e⟩
  obtain ⟨f0, h0⟩ := choose_lt e0
  obtain ⟨f1, h1⟩ := choose_lt e1
  obtain ⟨f2, h2⟩ := choose_lt e2
  obtain ⟨f3, h3⟩ := choose_lt e3
  obtain ⟨f4, h4⟩ := choose_lt e4
  obtain ⟨f5, h5⟩ := choose_lt e5
  obtain ⟨f6, h6⟩ := choose_lt e6
  refine ⟨(List.range n).map (fun i => ⟨f0 i, f1 i, f2 i, f3 i, f4 i, f5 i, (f6 i).1, (f6 i).2.1, (f6 i).2.2⟩), ?_, ?_⟩
  · have := isSl_lies cPD cPD_len (fun i => (⟨f0 i, f1 i, f2 i, f3 i, f4 i, f5 i, (f6 i).1, (f6 i).2.1, (f6 i).2.2⟩ : PD)) hsl (fun i j hi hj => by
      match j, hj with
      | 0, _ => rw [(h0 i hi).1]; rfl
      | 1, _ => rw [(h1 i hi).1]; rfl
      | 2, _ => rw [(h2 i hi).1]; rfl
      | 3, _ => rw [h3 i hi]; rfl
      | 4, _ => rw [h4 i hi]; rfl
      | 5, _ => rw [h5 i hi]; rfl
      | 6, _ => rw [h6 i hi]; rfl)
    rw [List.length_map, List.length_range]
    exact this
  · intro x hx
    simp only [List.mem_map, List.mem_range] at hx
    obtain ⟨i, hi, rfl⟩ := hx
    have r0 := wf_u32_range (h0 i hi).2
    have r1 := wf_u16_range (h1 i hi).2
    have r2 := wf_u16_range (h2 i hi).2
    exact ⟨r0.1, r0.2, r1.1, r1.2, r2.1, r2.2⟩

/-- What is told, by value. -/
def IsFwd (W : World) (v : Value) (x : Int × List (Int × Int)) : Prop := ∃ s, v = .agg #[.int .u32 x.1, s] ∧ Lies W 2 s x.2.length (flat cSk x.2) ∧ (∀ e, e ∈ x.2 → skOk e) ∧ 0 ≤ x.1 ∧ x.1 < 4294967296
theorem opened27 {H : Type} {enc : TypeId × Value → H} {W : World} {r : Reach} {base : Nat} {v : Value} {d : DataW H} {p : List MemPlace}
    (hv : Value.okWide Try.prog W r base 27 v) (h : DataW.Trod enc Try.prog W 0 (fun _ => true) true 27 v d p) : ∃ x, IsFwd W v x := by
  obtain ⟨cs, rfl, hl, hf⟩ := openAgg 2 Try.underlying27 (by kernel_rfl) (by kernel_rfl) rfl hv h
  match cs, hl with
  | [c0, c1], _ =>
    obtain ⟨m0, y0, g0⟩ := hf 0 _ rfl
    obtain ⟨m1, y1, g1⟩ := hf 1 _ rfl
    obtain ⟨a, ea, wa⟩ := trod_int1 Try.underlying22 g0
    obtain ⟨n, V, hsl, hV⟩ := openSlT 2 Try.underlying25 Try.underlying41 (by kernel_rfl) (by kernel_rfl) rfl (by decide) g1
    have e0 : ∀ i, i < n → ∃ c : Int, V i 0 = .int .u16 c ∧ (Lit.int .u16 c).wf = true := fun i hi => by
      obtain ⟨m, y, hy⟩ := hV i hi 0 _ rfl
      exact trod_int1 Try.underlying31 hy
    have e1 : ∀ i, i < n → ∃ c : Int, V i 1 = .int .u16 c ∧ (Lit.int .u16 c).wf = true := fun i hi => by
      obtain ⟨m, y, hy⟩ := hV i hi 1 _ rfl
      exact trod_int1 Try.underlying31 hy
    obtain ⟨f0, h0⟩ := choose_lt e0
    obtain ⟨f1, h1⟩ := choose_lt e1
    have r0 := wf_u32_range wa
    refine ⟨(a, (List.range n).map (fun i => (f0 i, f1 i))), c1, ?_, ?_, ?_, r0.1, r0.2⟩
    · have : c0 = .int .u32 a := ea
      rw [this]
    · have := isSl_lies cSk cSk_len (fun i => (f0 i, f1 i)) hsl (fun i j hi hj => by
        match j, hj with
        | 0, _ => rw [(h0 i hi).1]; rfl
        | 1, _ => rw [(h1 i hi).1]; rfl)
      rw [List.length_map, List.length_range]
      exact this
    · intro x hx
      simp only [List.mem_map, List.mem_range] at hx
      obtain ⟨i, hi, rfl⟩ := hx
      have r0 := wf_u16_range (h0 i hi).2
      have r1 := wf_u16_range (h1 i hi).2
      exact ⟨r0.1, r0.2, r1.1, r1.2⟩
end Go.Proofs.Ytdmoknijpapedaa
