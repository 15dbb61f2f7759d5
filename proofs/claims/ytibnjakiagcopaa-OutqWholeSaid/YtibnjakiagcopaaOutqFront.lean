/- The front of a queue is turned, or goes. Conditions: the queue lies in memory. -/
import Derived.Test.YtibnjakiagcopaaOutqPut2
namespace Go.Proofs.Ytibnjakiagcopaa
open Go.RowKit Go.Deep
set_option linter.unusedVariables false
set_option linter.unusedSimpArgs false

/-- Block b is a queue: its list's slice, its numbers' slice, its items. -/
def outP (w : World) (b : Nat) (v sv : Value) (Z : List ZT) (S : QS) : Prop :=
  obj w b 65 [v, .int .i64 S.many, .int .i64 S.room, .int .i64 S.used, sv] ∧ offRow w 0 67 1 v Z.length (flat cP (Z.map (·.1))) ∧
    w.ownsRow 0 22 1 sv S.ssn.length (flat cN S.ssn) ∧ Z.map (·.2.2) = S.L ∧ (∀ z, z ∈ Z → itemIs w z) ∧ (Z.map (·.1)).Nodup
theorem outP.is {w : World} {b : Nat} {v sv : Value} {Z : List ZT} {S : QS} (h : outP w b v sv Z S) : outIs w b (foot b v sv Z) S := ⟨v, sv, Z, rfl, h⟩
theorem outIs.p {w : World} {b : Nat} {F : List Nat} {S : QS} (h : outIs w b F S) : ∃ v sv Z, F = foot b v sv Z ∧ outP w b v sv Z S := h
theorem item_foot {b : Nat} {v sv : Value} {Z : List ZT} {z : ZT} (h : z ∈ Z) : z.1 ∈ foot b v sv Z ∧ ∀ k, z.2.1.ownBlock = some k → k ∈ foot b v sv Z := by
  constructor
  · simp only [foot, List.mem_cons, List.mem_append]
    exact .inr (.inr (.inr (mem_zfoot.2 ⟨z, h, .inl rfl⟩)))
  · intro k e
    simp only [foot, List.mem_cons, List.mem_append]
    exact .inr (.inr (.inr (mem_zfoot.2 ⟨z, h, .inr e⟩)))
theorem outP.past {w w' : World} {b : Nat} {v sv : Value} {Z : List ZT} {S : QS} {L : List Nat} (h : outP w b v sv Z S) (t : turned w w' L) (hL : ∀ k, k ∈ foot b v sv Z → k ∉ L) : outP w' b v sv Z S :=
  ⟨h.1.past t (hL b (foot_b _ _ _ _)), h.2.1.past t (fun g e => hL g (by simp [foot, e])), row_past h.2.2.1 t (fun g e => hL g (by simp [foot, e])), h.2.2.2.1, fun z hz => (h.2.2.2.2.1 z hz).past t (hL z.1 (item_foot hz).1) (fun k e => hL k ((item_foot hz).2 k e)), h.2.2.2.2.2⟩
/-- A cell of the front's is written. -/
theorem outP.setItem {w : World} {b g : Nat} {v sv bv : Value} {x x' : IT} {Z : List ZT} {S : QS} {L : List IT} (h : outP w b v sv ((g, bv, x) :: Z) S) (hl : S.L = x :: L) (j : Nat) (V : Value) (hx : cIT bv x' = (cIT bv x).set j V) (hB : x'.B = x.B) :
    outP (w.setCell ⟨g, j, none⟩ V) b v sv ((g, bv, x') :: Z) { S with L := x' :: L } ∧ turned w (w.setCell ⟨g, j, none⟩ V) [g] := by
  obtain ⟨h1, h2, h3, h4, h5, h6⟩ := h
  have t : turned w (w.setCell ⟨g, j, none⟩ V) [g] := turned_set (turned_refl _ _) (List.mem_singleton.2 rfl) _
  have hi := h5 (g, bv, x) (by simp)
  rw [hl] at h4
  simp only [List.map_cons, List.cons.injEq] at h4
  refine ⟨⟨h1.past t (fun e => h1.ne hi.1 (by decide) (List.mem_singleton.1 e)), h2.past t (fun k e hk => h2.ne hi.1 (by decide) (by rw [e, List.mem_singleton.1 hk])), row_past h3 t (fun k e hk => row_ne h3 hi.1 (by decide) (by rw [e, List.mem_singleton.1 hk])), ?_, ?_, h6⟩, t⟩
  · simp [h4.2]
  · intro z hz
    rcases List.mem_cons.1 hz with rfl | hz
    · refine ⟨?_, ?_⟩
      · show obj _ g _ (cIT bv x')
        rw [hx]
        exact hi.1.set j V
      · show World.ownsRow _ 0 _ 1 bv x'.B.length (flat cB x'.B)
        rw [hB]
        exact row_past hi.2 t (fun k e hk => row_ne hi.2 hi.1 (by decide) (by rw [e, List.mem_singleton.1 hk]))
    · have hz' := h5 z (by simp [hz])
      refine hz'.past t (fun e => ?_) (fun k e hk => row_ne hz'.2 hi.1 (by decide) (by rw [e, List.mem_singleton.1 hk]))
      simp only [List.map_cons, List.nodup_cons] at h6
      exact h6.1 (List.mem_map.2 ⟨z, hz, List.mem_singleton.1 e⟩)
/-- A stream's number is written. -/
theorem outP.setSsn {w w' : World} {b : Nat} {v sv : Value} {Z : List ZT} {S : QS} {G : List Int} (h : outP w b v sv Z S) (t : turned w w' sv.ownBlock.toList) (hG : G.length = S.ssn.length) (hr : w'.ownsRow 0 22 1 sv G.length (flat cN G)) : outP w' b v sv Z { S with ssn := G } := by
  obtain ⟨h1, h2, h3, h4, h5, h6⟩ := h
  refine ⟨h1.past t (fun e => row_ne h3 h1 (by decide) (by simpa using e)), h2.past t (fun k e hk => off_ne_row h2 h3 (by decide) k e (by simpa using hk)), hr, h4, fun z hz => (h5 z hz).past t (fun e => row_ne h3 (h5 z hz).1 (by decide) (by simpa using e)) (fun k e hk => ?_), h6⟩
  exact off_ne_row (offRow.of (h5 z hz).2) h3 (by decide) k e (by simpa using hk)
/-- The front goes. -/
theorem outP.pop {w : World} {b g gi off n cap : Nat} {sv bv : Value} {x : IT} {Z : List ZT} {S : QS} {L : List IT} (h : outP w b (.slice (some ⟨gi, off, none⟩) n cap) sv ((g, bv, x) :: Z) S) (hl : S.L = x :: L) (v' : Value) (hv : v' = .slice (some (if cap = 1 then ⟨gi, off, none⟩ else ⟨gi, off + 1, none⟩)) Z.length (cap - 1)) :
    outP (w.setCell ⟨b, 0, none⟩ v') b v' sv Z { S with L := L } ∧ turned w (w.setCell ⟨b, 0, none⟩ v') [b] ∧ ∀ k, k ∈ foot b v' sv Z → k ∈ foot b (.slice (some ⟨gi, off, none⟩) n cap) sv ((g, bv, x) :: Z) := by
  obtain ⟨h1, h2, h3, h4, h5, h6⟩ := h
  have t : turned w (w.setCell ⟨b, 0, none⟩ v') [b] := turned_set (turned_refl _ _) (List.mem_singleton.2 rfl) _
  obtain ⟨a, c, e, _⟩ := h2.form
  cases e
  have hp := h2.from_ 1 (by simp)
  have hvo : v'.ownBlock = some gi := by rw [hv]; split <;> rfl
  rw [hl] at h4
  simp only [List.map_cons, List.cons.injEq] at h4
  have e1 : flat cP (((g, bv, x) :: Z).map (·.1)) = cP g ++ flat cP (Z.map (·.1)) := by simp [flat]
  have hp' : offRow w 0 67 1 v' Z.length (flat cP (Z.map (·.1))) := by
    rw [hv]
    simp only [List.length_cons, Nat.add_sub_cancel] at hp
    rw [e1] at hp
    simpa [cP] using hp
  refine ⟨⟨h1.set 0 _, hp'.past t (fun k e hk => hp'.ne h1 (by decide) (by rw [e, List.mem_singleton.1 hk])), row_past h3 t (fun k e hk => row_ne h3 h1 (by decide) (by rw [e, List.mem_singleton.1 hk])), h4.2, fun z hz => ?_, ?_⟩, t, ?_⟩
  · have hz' := h5 z (by simp [hz])
    exact hz'.past t (fun e => hz'.1.ne h1 (by decide) (List.mem_singleton.1 e)) (fun k e hk => row_ne hz'.2 h1 (by decide) (by rw [e, List.mem_singleton.1 hk]))
  · simp only [List.map_cons, List.nodup_cons] at h6
    exact h6.2
  · intro k hk
    simp only [foot, zfoot, List.flatMap_cons, List.mem_cons, List.mem_append, Option.mem_toList] at hk ⊢
    rcases hk with rfl | hk | hk | hk
    · exact .inl rfl
    · refine .inr (.inl ?_)
      rw [hvo] at hk
      exact hk
    · exact .inr (.inr (.inl hk))
    · exact .inr (.inr (.inr (.inr hk)))
set_option maxHeartbeats 2000000 in
theorem oleft_cells (g n a : Nat) (ba : Option Addr) (bc : Nat) (w : World) (c2 : w.cell? ⟨g, 2, none⟩ = some (.slice ba n bc)) (c5 : w.cell? ⟨g, 5, none⟩ = some (.int .i64 (a : Int))) (h1 : n ≤ 1048576) (h2 : a ≤ n) :
    Calls Try.prog 28 #[.pointer (some ⟨g, 0, none⟩)] w (Reads w (.int .i64 ((n - a : Nat) : Int))) := by
  have s1 : IntKind.i64.wrap ((n : Int) - (a : Int)) = (n : Int) - (a : Int) := IntWalk.i64_in _ (by omega)
  have s2 : ((n : Int) - (a : Int)) = ((n - a : Nat) : Int) := by omega
  have S2 := Lib.hid s2
  clear s2
  go_enter Try.func28, Try.ntmps28
  go_wp2_with fail
  go_quiet (fail)
  go_wp2_with fail
  go_ret
  exact ⟨ret_int S2.out, _, rfl⟩
/-- A part of bytes that lie in a row. -/
theorem row_part {w : World} {g cap : Nat} {B : List Int} (h : w.ownsRow 0 5 1 (.slice (some ⟨g, 0, none⟩) B.length cap) B.length (flat cB B)) (s m c : Nat) (hs : s + m ≤ B.length) (hm : m ≤ c) (hc : c ≤ 9223372036854775807) (hb : bytes B) : LiesB w (.slice (some ⟨g, s, none⟩) m c) ((B.drop s).take m) := by
  have hlen : ((B.drop s).take m).length = m := by simp; omega
  refine ⟨⟨?_, some ⟨g, s, none⟩, c, ?_, ?_, hc, fun hn => ⟨g, s, rfl, (row_lt0 h g rfl).2, fun j u hu => ?_⟩⟩, fun x hx => hb x (List.mem_of_mem_drop (List.mem_of_mem_take hx))⟩
  · rw [flat_len cB_len]
  · rw [hlen]
  · rw [hlen]; exact hm
  · have hj : j < m := by
      have := (List.getElem?_eq_some_iff.1 hu).1
      rw [flat_len cB_len, hlen] at this
      omega
    have e1 := flat_at cB_len ((B.drop s).take m) j (by omega) 0 (by omega)
    rw [Nat.mul_one, Nat.add_zero, hu] at e1
    have e2 := flat_at cB_len B (s + j) (by omega) 0 (by omega)
    rw [Nat.mul_one, Nat.add_zero] at e2
    have e3 := h.cellAt (s + j) (by omega)
    rw [e2] at e3
    rw [e3, e1]
    simp
end Go.Proofs.Ytibnjakiagcopaa
