/- How long the bytes of what came in may be. No condition. -/
import Derived.Test.YtibnjakiagcopaaOutqVast
import Derived.SizedLaws
namespace Go.Proofs.Ytibnjakiagcopaa
open Go.ChangeShapes Go.WideShapes Go.RowKit Go.Deep
set_option linter.unusedVariables false
set_option linter.unusedSimpArgs false

theorem bytes_sized {H : Type} {enc : TypeId × Value → H} {W : World} {m : Nat} {a : Option Addr} {n c : Nat} {y : DataW H × List MemPlace} (h : DataW.trod enc Try.prog W 0 (fun _ => true) true m 29 [.slice a n c] = some y) (R : Nat) (hw : ∀ k, k ∈ y.1.weights Try.prog 29 → k ≤ R) : n ≤ R := by
  rcases open_slice Try.underlying29 h with ⟨hcs, _⟩ | ⟨a', len, cap, m', n', D, Pl, hcs, _, hl, hm, hmm, rfl, _⟩
  · simp only [List.cons.injEq, Value.slice.injEq, and_true] at hcs
    omega
  · simp only [List.cons.injEq, Value.slice.injEq, and_true] at hcs
    obtain ⟨_, rfl, _⟩ := hcs
    have hb : Try.prog.bytesOf 5 = 1 := by kernel_rfl
    have := hw ((((List.range n).map D).length + ((List.range (m' - n)).map fun j => D (n + j)).length) * Try.prog.bytesOf 5) (by
      unfold DataW.weights
      rw [Try.underlying29]
      simp)
    rw [hb] at this
    simp at this
    omega
theorem msg_sized {H : Type} {enc : TypeId × Value → H} {W : World} {m : Nat} {x : MD} {y : DataW H × List MemPlace} (h : DataW.trod enc Try.prog W 0 (fun _ => true) true m 31 (cMD x) = some y) (R : Nat) (hw : ∀ k, k ∈ y.1.weights Try.prog 31 → k ≤ R) : x.bn ≤ R := by
  obtain ⟨xs, k, _, rfl, _, hxl, hf⟩ := DataW.trod_struct Try.underlying31 h
  have g2 := hf 2 _ rfl
  have hx : xs.length = 3 := hxl
  rw [List.getElem?_eq_getElem (show 2 < xs.length by omega)] at g2
  refine bytes_sized (a := x.ba) (n := x.bn) (c := x.bc) g2 R (fun k hk => hw k ?_)
  unfold DataW.weights
  rw [Try.underlying31]
  exact DataW.weights_mem_each (j := 2) rfl (by rw [List.getElem?_map, List.getElem?_eq_getElem (show 2 < xs.length by omega)]; rfl) k hk
theorem op_sized {H : Type} {enc : TypeId × Value → H} {W : World} {m : Nat} {x : OD} {y : DataW H × List MemPlace} (h : DataW.trod enc Try.prog W 0 (fun _ => true) true m 51 (cOD x) = some y) (R : Nat) (hw : ∀ k, k ∈ y.1.weights Try.prog 51 → k ≤ R) : x.m.bn ≤ R := by
  obtain ⟨xs, k, _, rfl, _, hxl, hf⟩ := DataW.trod_struct Try.underlying51 h
  have g1 := hf 1 _ rfl
  have hx : xs.length = 4 := hxl
  rw [List.getElem?_eq_getElem (show 1 < xs.length by omega)] at g1
  refine msg_sized (x := x.m) g1 R (fun k hk => hw k ?_)
  unfold DataW.weights
  rw [Try.underlying51]
  exact DataW.weights_mem_each (j := 1) rfl (by rw [List.getElem?_map, List.getElem?_eq_getElem (show 1 < xs.length by omega)]; rfl) k hk
theorem sized51 {H : Type} {enc : TypeId × Value → H} {W : World} {r : Reach} {base : Nat} {v : Value} {d : DataW H} {p : List MemPlace}
    (hv : Value.okWide Try.prog W r base 51 v) (h : DataW.Trod enc Try.prog W 0 (fun _ => true) true 51 v d p) (hw : ∀ k, k ∈ d.weights Try.prog 51 → k ≤ reachBytes) : ∃ x : OD × List Int, v = .agg (cOD x.1).toArray ∧ x.1.ok ∧ LiesB W (.slice x.1.m.ba x.1.m.bn x.1.m.bc) x.2 ∧ x.2.length ≤ 140737488351232 := by
  obtain ⟨x, rfl, h1, h2⟩ := opened51 hv h
  obtain ⟨fuel, hf⟩ := h
  have hb := op_sized (x := x.1) (by simpa [Value.cells] using hf) reachBytes hw
  exact ⟨x, rfl, h1, h2, by rw [← h2.len]; exact hb⟩
theorem all_weights {H : Type} {P : Program} {e : TypeId} : ∀ {L : List (DataW H)} {d : DataW H}, d ∈ L → ∀ k, k ∈ d.weights P e → k ∈ DataW.weightsAll P e L
  | [], _, h, _, _ => by cases h
  | x :: L, d, h, k, hk => by
    simp only [DataW.weightsAll, List.mem_append]
    rcases List.mem_cons.1 h with rfl | h
    · exact .inl hk
    · exact .inr (all_weights h k hk)
theorem sized42 {H : Type} {enc : TypeId × Value → H} {W : World} {r : Reach} {base : Nat} {v : Value} {d : DataW H} {p : List MemPlace}
    (hv : Value.okWide Try.prog W r base 42 v) (h : DataW.Trod enc Try.prog W 0 (fun _ => true) true 42 v d p) (hw : ∀ k, k ∈ d.weights Try.prog 42 → k ≤ reachBytes) : ∃ X : List OD × List (List Int), LiesO W v X.1 X.2 ∧ ∀ B, B ∈ X.2 → B.length ≤ 140737488351232 := by
  obtain ⟨X, hX⟩ := opened42 hv h
  refine ⟨X, hX, fun B hB => ?_⟩
  obtain ⟨i, hi, rfl⟩ := List.getElem_of_mem hB
  have hi' : i < X.1.length := by rw [← hX.2.2.1]; exact hi
  rw [← (hX.2.2.2 i hi' hi).len]
  obtain ⟨a0, len0, cap0, rfl⟩ := okWide_slice Try.underlying42 hv
  obtain ⟨fuel, hf⟩ := h
  obtain ⟨_, _, e0, _⟩ := hX.1.form
  simp only [Value.slice.injEq] at e0
  obtain ⟨_, rfl, _⟩ := e0
  rcases open_slice Try.underlying42 (by simpa [Value.cells] using hf) with ⟨hcs, _⟩ | ⟨a, len, cap, m, n, D, Pl, hcs, _, hl, hm, hmm, hd, hx⟩
  · simp only [List.cons.injEq, Value.slice.injEq, and_true] at hcs
    omega
  simp only [List.cons.injEq, Value.slice.injEq, and_true] at hcs
  obtain ⟨rfl, rfl, rfl⟩ := hcs
  simp only [if_true] at hmm
  simp only [Prod.mk.injEq] at hd
  obtain ⟨rfl, _⟩ := hd
  obtain ⟨cs', h1, h2⟩ := hx i (by omega)
  have hC : Try.prog.cellsOf 51 = 6 := by kernel_rfl
  rw [hC] at h1
  obtain ⟨_, hlen, hcell⟩ := World.cells?_some h1
  obtain ⟨b, off, e1, _, hc⟩ := hX.cells i hi'
  simp only [Option.some.injEq] at e1
  subst e1
  have ecs : cs' = cOD (X.1[i]'hi') := by
    refine List.ext_getElem? (fun j => ?_)
    by_cases hj : j < 6
    · have k1 := hcell j hj
      have k2 := hc j hj
      have e2 : ((⟨b, off, none⟩ : Addr).add (i * 6)).add j = ⟨b, off + i * 6 + j, none⟩ := addr_off
      rw [e2] at k1
      rw [← k1, k2]
    · rw [List.getElem?_eq_none (by omega), List.getElem?_eq_none (by rw [cOD_len]; omega)]
  rw [ecs] at h2
  refine op_sized h2 reachBytes (fun k hk => hw k ?_)
  unfold DataW.weights
  rw [Try.underlying42]
  simp only [List.mem_cons, List.mem_append]
  exact .inr (.inl (all_weights (List.mem_map.2 ⟨i, List.mem_range.2 (by omega), rfl⟩) k hk))
end Go.Proofs.Ytibnjakiagcopaa
