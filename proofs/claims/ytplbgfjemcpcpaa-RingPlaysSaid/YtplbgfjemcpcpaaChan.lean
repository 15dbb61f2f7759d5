/- From a walk of the machine of one, on to the kit's ordinary walk of the code that is left: for functions that send or receive. No condition. -/
import Derived.Test.YtplbgfjemcpcpaaTurned
import Derived.Conc.LoneCalls
import Derived.Conc.LoneSelectN
import Derived.Maps.AppendAt
import Derived.Laws.OwnMore
import Derived.OwnWalk
namespace Go.Proofs.Ytplbgfjemcpcpaa
open Go.RowKit Go.Conc
set_option linter.unusedVariables false
set_option linter.unusedSimpArgs false

/-- What is left of a function, the frame being an ordinary call's: by the ordinary walk. -/
theorem loneTo_of_wp {P : Program} {f : FuncId} {fn : Func} {c : Code} {a : Act} {w : World} {b : Frame} {cs : List Frame} {R : Ending → World → Prop}
    (hf : P.funcs[f]? = some fn) (hb : b.fn = f) (hk : b.kind = .normal) (hno : ∀ w', ¬ R .outgrown w') (h : c.wp P (bodyPost P fn R) a w) :
    LoneTo P (fun g' w' => ∃ e fr, g' = G fr cs ∧ R e w' ∧ fr.fn = f ∧ fr.leaving P w' e) (G (b.at a [.code c]) cs) w := by
  obtain ⟨e, a', w', hq, harr⟩ := h b [] cs
  cases e with
  | normal =>
    obtain ⟨hd, v, hr, hR⟩ := hq
    exact ⟨_, w', Steps.trans harr (.one step_end), .returned v, _, rfl, hR, hb, rfl, hd, hk, fn, by rw [← hb] at hf; exact hf, hr⟩
  | ret =>
    obtain ⟨hd, v, hr, hR⟩ := hq
    obtain ⟨todo, hs⟩ := harr
    exact ⟨_, w', hs, .returned v, _, rfl, hR, hb, rfl, hd, hk, fn, by rw [← hb] at hf; exact hf, hr⟩
  | panic chain =>
    obtain ⟨hd, hR⟩ := hq
    obtain ⟨todo, hs⟩ := harr
    exact ⟨_, w', hs, .panicked chain, _, rfl, hR, hb, rfl, hd, fn, by rw [← hb] at hf; exact hf⟩
  | exit id => exact hq.elim
  | goto l => exact hq.elim
  | outgrown => exact absurd hq (hno w')

/-- Behind x the machine of one goes on at y. -/
def ThenLone (P : Program) (fn : Func) (R : Ending → World → Prop) (X : Goroutine → World → Prop) (b : Frame) (cs : List Frame) (y : Code) : Exit → Act → World → Prop
  | .normal, a, w => LoneTo P X (G (b.at a [.code y]) cs) w
  | .exit _, _, _ | .goto _, _, _ => False
  | e, a, w => bodyPost P fn R e a w
theorem loneTo_seq {P : Program} {f : FuncId} {fn : Func} {x y : Code} {a : Act} {w : World} {b : Frame} {cs : List Frame} {R : Ending → World → Prop}
    (hf : P.funcs[f]? = some fn) (hb : b.fn = f) (hk : b.kind = .normal) (hno : ∀ w', ¬ R .outgrown w')
    (h : x.wp P (ThenLone P fn R (fun g' w' => ∃ e fr, g' = G fr cs ∧ R e w' ∧ fr.fn = f ∧ fr.leaving P w' e) b cs y) a w) :
    LoneTo P (fun g' w' => ∃ e fr, g' = G fr cs ∧ R e w' ∧ fr.fn = f ∧ fr.leaving P w' e) (G (b.at a [.code (.seq x y)]) cs) w := by
  obtain ⟨e, a', w', hq, harr⟩ := h b [.code y] cs
  cases e with
  | normal =>
    obtain ⟨g2, w2, hs, hX⟩ := hq
    exact ⟨g2, w2, Steps.trans (Steps.head step_seq harr) hs, hX⟩
  | ret =>
    obtain ⟨hd, v, hr, hR⟩ := hq
    obtain ⟨todo, hs⟩ := harr
    exact ⟨_, w', Steps.head step_seq hs, .returned v, _, rfl, hR, hb, rfl, hd, hk, fn, by rw [← hb] at hf; exact hf, hr⟩
  | panic chain =>
    obtain ⟨hd, hR⟩ := hq
    obtain ⟨todo, hs⟩ := harr
    exact ⟨_, w', Steps.head step_seq hs, .panicked chain, _, rfl, hR, hb, rfl, hd, fn, by rw [← hb] at hf; exact hf⟩
  | exit id => exact hq.elim
  | goto l => exact hq.elim
  | outgrown => exact absurd hq (hno w')
theorem addr_add0 (b j : Nat) : (⟨b, 0, none⟩ : Addr).add j = ⟨b, j, none⟩ := by
  unfold Addr.add
  by_cases hj : j = 0 <;> simp [hj]

/-- A channel's block: its capacity, how many lie in it. -/
def chanIs (w : World) (c cap n : Nat) : Prop := ∃ buf s r, w.heap[c]? = some (.chan cap buf false s r false) ∧ buf.size = n
theorem chanIs.lt {w : World} {c cap n : Nat} (h : chanIs w c cap n) : c < w.heap.size := by obtain ⟨buf, s, r, h, _⟩ := h; exact lt_of_block h
theorem chanIs.kept {w w' : World} {c cap n : Nat} (h : chanIs w c cap n) (hb : w'.heap[c]? = w.heap[c]?) : chanIs w' c cap n := by
  obtain ⟨buf, s, r, h, hs⟩ := h
  exact ⟨buf, s, r, hb.trans h, hs⟩
theorem setChan_other (w : World) (c c' cap : Nat) (buf : Array Value) (closed : Bool) (s r : Nat) (tm : Bool) (h : c ≠ c') : (w.setChan c cap buf closed s r tm).heap[c']? = w.heap[c']? := by
  simp [World.setChan, Array.getElem?_setIfInBounds_ne h]
theorem turned_chan {a w : World} {c : Nat} {L : List Nat} (h : turned a w L) (hc : c ∈ L) (cap : Nat) (buf : Array Value) (cl : Bool) (s r : Nat) (tm : Bool) : turned a (w.setChan c cap buf cl s r tm) L :=
  turned_trans h ⟨rfl, rfl, rfl, by simp [World.setChan], fun k hk hn => by
    have hne : c ≠ k := fun e => hn (by rw [← e]; exact hc)
    simp only [World.setChan]; rw [Array.getElem?_setIfInBounds_ne hne]⟩
end Go.Proofs.Ytplbgfjemcpcpaa
