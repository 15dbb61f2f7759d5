/- Keys that are pairs of numbers. No condition. -/
import Derived.Test.YtebdnciehobfaaaTim
import Derived.DeepKeys4
namespace Go.Proofs.Ytebdnciehobfaaa
open Go.RowKit Go.Maps
set_option linter.unusedVariables false
set_option linter.unusedSimpArgs false

def mkK (x : Int × Int) : Value := .agg #[.int .u16 x.1, .int .u16 x.2]
def lkK (x : Int × Int) : Lit := .string (keyBytes [.int .u16 x.1, .int .u16 x.2])
theorem cellsK : Try.prog.cellsOf 58 = 2 := by kernel_rfl
theorem cellsK2 : Try.prog.cellsOf 45 = 1 := by kernel_rfl
theorem rowK : (58 : TypeId) < Try.prog.types.size := of_decide_eq_true (by kernel_rfl)
theorem laidK : laidOutB Try.prog = true := by kernel_rfl
theorem wideK : (match Try.prog.underlying 58 with | some (.array _ _) | some (.struct _) => true | _ => false) = true := by rw [Try.underlying58]
theorem keyedK : Keyed Try.prog 58 := Keyed.of_law (deep_law_laid laidK (m := 2) (by omega) rowK (by kernel_rfl) wideK)
theorem keyTypeK : Try.prog.keyType 58 = true := by kernel_rfl
theorem lit1K (d : Nat) (c : Value) (L : List Lit) (h : Try.prog.keyLits (d + 1) 45 [c] = some L) : ∃ a : Int, c = .int .u16 a ∧ L = [.int .u16 a] := by
  unfold Program.keyLits at h
  simp only [Try.underlying45] at h
  split at h <;> simp_all
theorem mk1K (d : Nat) (a : Int) (h : (Lit.int .u16 a).wf = true) : Try.prog.keyLits (d + 1) 45 [.int .u16 a] = some [.int .u16 a] := by
  unfold Program.keyLits
  simp [Try.underlying45, h]
theorem litsK (d : Nat) (cs : List Value) (L : List Lit) (h : Try.prog.keyLits (d + 2) 58 cs = some L) : ∃ x : Int × Int, cs = [.int .u16 x.1, .int .u16 x.2] ∧ L = [.int .u16 x.1, .int .u16 x.2] := by
  unfold Program.keyLits at h
  simp only [Try.underlying58] at h
  split at h
  · rename_i hc
    have h2 := hc.1
    rw [cellsK] at h2
    match cs, h2 with
    | [c0, c1], _ =>
      simp only [List.mapM_cons, List.mapM_nil, cellsK2, List.drop_zero, List.drop_succ_cons, List.take_succ_cons, List.take_zero] at h
      cases h0 : Try.prog.keyLits (d + 1) 45 [c0] with
      | none => simp [h0] at h
      | some L0 =>
        cases h1 : Try.prog.keyLits (d + 1) 45 [c1] with
        | none => simp [h0, h1] at h
        | some L1 =>
          obtain ⟨a, rfl, rfl⟩ := lit1K d c0 L0 h0
          obtain ⟨b, rfl, rfl⟩ := lit1K d c1 L1 h1
          simp [h0, h1] at h
          exact ⟨(a, b), rfl, h.symm⟩
  · cases h
theorem typesK : ∃ m, Try.prog.types.size = m + 1 := ⟨Try.prog.types.size - 1, (Nat.succ_pred_eq_of_pos (Nat.lt_of_le_of_lt (Nat.zero_le _) rowK)).symm⟩
theorem invK (v : Value) (kl : Lit) (h : keyOf Try.prog 58 v = some kl) : ∃ x, v = mkK x ∧ kl = lkK x := by
  obtain ⟨xs, L, rfl, hl, rfl⟩ := keyOf_top wideK h
  obtain ⟨m, hm⟩ := typesK
  rw [hm] at hl
  obtain ⟨x, h1, h2⟩ := litsK m xs.toList L hl
  refine ⟨x, ?_, by rw [h2]; rfl⟩
  unfold mkK
  rw [← Array.toList_inj.1 (show xs.toList = (#[Value.int .u16 x.1, .int .u16 x.2] : Array Value).toList from h1)]
theorem keyK {x : Int × Int} (h0 : (Lit.int .u16 x.1).wf = true) (h1 : (Lit.int .u16 x.2).wf = true) : keyOf Try.prog 58 (mkK x) = some (lkK x) := by
  obtain ⟨m, hm⟩ := typesK
  unfold keyOf mkK lkK
  simp only [Try.underlying58]
  rw [if_pos (by simp [keyTypeK, Value.formed, Try.underlying58, cellsK]), hm]
  unfold Program.keyLits
  simp only [Try.underlying58, Value.cells]
  rw [if_pos (by rw [cellsK]; exact ⟨rfl, by simp⟩)]
  simp only [List.mapM_cons, List.mapM_nil, cellsK2, List.drop_zero, List.drop_succ_cons, List.take_succ_cons, List.take_zero]
  simp [mk1K m _ h0, mk1K m _ h1]
theorem mkinjK : ∀ x y, mkK x = mkK y → x = y := fun x y h => by
  simp [mkK] at h
  exact Prod.ext h.1 h.2
end Go.Proofs.Ytebdnciehobfaaa
