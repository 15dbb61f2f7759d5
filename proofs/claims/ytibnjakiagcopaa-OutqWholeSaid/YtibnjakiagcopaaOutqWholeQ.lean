/- Messages that came in, by functions of their places; the queue's states at them. No condition. -/
import Derived.Test.YtibnjakiagcopaaOutqWholeP
namespace Go.Proofs.Ytibnjakiagcopaa
open Go.RowKit Go.Deep
set_option linter.unusedVariables false
set_option linter.unusedSimpArgs false

def mS (X : List MD) (j : Nat) : Int := (X.map (·.s)).getD j 0
def mσ (X : List MD) (j : Nat) : Int := mS X j % 16
def mω (X : List MD) (j : Nat) : Bool := (X.map (·.o)).getD j false
def mβ (Bs : List (List Int)) (j : Nat) : List Int := Bs.getD j []
/-- A message's cells, in every later world. -/
theorem LiesM.at_ {W : World} {a : Option Addr} {n cap : Nat} {X : List MD} {Bs : List (List Int)} (h : LiesM W (.slice a n cap) X Bs) (j : Nat) (hj : j < X.length) : ∃ b off ba bc, a = some ⟨b, off, none⟩ ∧ (0 ≤ mS X j ∧ mS X j < 65536) ∧ bytes (mβ Bs j) ∧ ∀ w, turned W w [] →
    w.cell? ⟨b, off + j * 3, none⟩ = some (.int .u16 (mS X j)) ∧ w.cell? ⟨b, off + j * 3 + 1, none⟩ = some (.bool (mω X j)) ∧ w.cell? ⟨b, off + j * 3 + 2, none⟩ = some (.slice ba (mβ Bs j).length bc) ∧ LiesB w (.slice ba (mβ Bs j).length bc) (mβ Bs j) := by
  obtain ⟨⟨_, a', cap', e, _, _, hc⟩, hs, hl, hB⟩ := h
  cases e
  obtain ⟨b, off, rfl, hb, hcell⟩ := hc (by omega)
  have hjb : j < Bs.length := by omega
  have e1 : mS X j = (X[j]'hj).s := by simp [mS, hj]
  have e2 : mω X j = (X[j]'hj).o := by simp [mω, hj]
  have e3 : mβ Bs j = Bs[j]'hjb := by simp [mβ, hjb]
  have hB' := hB j hj hjb
  have hlen := hB'.len
  have g : ∀ i, i < 3 → W.cell? ⟨b, off + j * 3 + i, none⟩ = (cMD (X[j]'hj))[i]? := fun i hi => by
    have e := flat_at cMD_len X j hj i hi
    have hlt : i < (cMD (X[j]'hj)).length := by rw [cMD_len]; exact hi
    rw [List.getElem?_eq_getElem hlt] at e ⊢
    rw [Nat.add_assoc]
    exact hcell _ _ e
  refine ⟨b, off, (X[j]'hj).ba, (X[j]'hj).bc, rfl, by rw [e1]; exact hs _ (List.getElem_mem hj), by rw [e3]; exact hB'.2, fun w t => ⟨?_, ?_, ?_, ?_⟩⟩
  · rw [e1]
    exact turned_cell t (g 0 (by omega)) (by simp)
  · rw [e2]
    exact turned_cell t (g 1 (by omega)) (by simp)
  · rw [e3, ← hlen]
    exact turned_cell t (g 2 (by omega)) (by simp)
  · rw [e3]
    have := hB'.none_ t
    rw [hlen] at this
    exact this
section
variable {X : List MD} {Bs : List (List Int)}
theorem mσ_in (j : Nat) : 0 ≤ mσ X j ∧ mσ X j < 16 := by unfold mσ; omega
/-- Whether the next message is taken. -/
theorem WQ_err {N i : Nat} (hi : i < N) (hN : N ≤ 60) (hb : ∀ j, j < N → 1 ≤ (mβ Bs j).length ∧ (mβ Bs j).length ≤ 1000) : (WQ (mσ X) (mω X) (mβ Bs) i).err (mσ X i) (mβ Bs i).length 0 = 0 := by
  have h1 := wtot_bound (β := mβ Bs) (N := N) (fun j hj => (hb j hj).2)
  have h2 := wtot_le (β := mβ Bs) (N := N) (i := i + 1) (by omega)
  rw [wtot_succ] at h2
  have h3 := hb i hi
  have h4 := mσ_in (X := X) i
  unfold QS.err WQ
  simp only [List.length_replicate]
  rw [if_neg (by omega), if_neg (by omega), if_neg (by omega), if_neg (by omega)]
theorem WQ_ok_next {N i : Nat} (hi : i < N) (hN : N ≤ 60) (hb : ∀ j, j < N → 1 ≤ (mβ Bs j).length ∧ (mβ Bs j).length ≤ 1000) (hby : bytes (mβ Bs i)) (h : (WQ (mσ X) (mω X) (mβ Bs) i).ok i) : (WQ (mσ X) (mω X) (mβ Bs) (i + 1)).ok (i + 1) := by
  rw [← WQ_put]
  have h1 := wtot_bound (β := mβ Bs) (N := N) (fun j hj => (hb j hj).2)
  have h2 := wtot_le (β := mβ Bs) (N := N) (i := i + 1) (by omega)
  rw [wtot_succ] at h2
  have h4 := mσ_in (X := X) i
  refine QS.put_ok h _ _ _ _ ⟨h4.1, ?_⟩ hby (hb i hi).1 ?_ (by omega) (by omega)
  · show mσ X i < ((List.replicate 16 (0 : Int)).length : Nat)
    rw [List.length_replicate]; omega
  · show ((wtot (mβ Bs) i : Nat) : Int) + ((mβ Bs i).length : Int) ≤ 1048576
    omega
/-- A slice's length. -/
def slLen : Value → Nat
  | .slice _ n _ => n
  | _ => 0
/-- The queue while a message is taken. -/
def WT (X : List MD) (Bs : List (List Int)) (N i a : Nat) : QS := if a = (mβ Bs i).length then WE (mσ X) (mω X) (mβ Bs) N (i + 1) else WS (mσ X) (mω X) (mβ Bs) N i a
end
end Go.Proofs.Ytibnjakiagcopaa
