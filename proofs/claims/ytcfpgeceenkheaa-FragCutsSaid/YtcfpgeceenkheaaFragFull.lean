/- slices.Clone, with all the room that its copy has. Conditions: the bytes lie in memory; at most 4,000,000. -/
import Derived.Test.YtcfpgeceenkheaaFragFns
namespace Go.Proofs.Ytcfpgeceenkheaa
open Go.RowKit
set_option linter.unusedVariables false
set_option linter.unusedSimpArgs false

/-- All that a slice has room for are bytes, in a block of its own. -/
def full (w : World) (a : Option Addr) (c : Nat) : Prop := ∀ p, a = some p → ∃ G : List Int, obj w p.block 5 (flat cB G) ∧ (∀ x, x ∈ G → 0 ≤ x ∧ x < 256) ∧ G.length = c
theorem full.past {w w' : World} {a : Option Addr} {c : Nat} {L : List Nat} (h : full w a c) (t : turned w w' L) (hL : ∀ p, a = some p → p.block ∉ L) : full w' a c := fun p e => by
  obtain ⟨G, h1, h2⟩ := h p e
  exact ⟨G, h1.past t (hL p e), h2⟩
theorem full.kept {w w' : World} {a : Option Addr} {c : Nat} {row : Option Nat} (h : full w a c) (g : w.grownBy w' row) (hr : ∀ p, a = some p → some p.block ≠ row) : full w' a c := fun p e => by
  obtain ⟨G, h1, h2⟩ := h p e
  exact ⟨G, h1.kept g (hr p e), h2⟩
theorem zeros_u8 (k : Nat) : (Builtin.zeroCells (Value.int .u8 0).cells k).toList = flat cB (List.replicate k 0) := by
  simp [Builtin.zeroCells, flat, cB, Value.cells, Nat.mod_one]
  rw [List.eq_replicate_iff]
  exact ⟨by simp, fun b hb => by simp at hb; exact hb.2.symm⟩
/-- A block of bytes of which these are the first. -/
def FB (w : World) (p c : Nat) (B : List Int) : Prop := ∃ G, obj w p 5 (flat cB G) ∧ (∀ x, x ∈ G → 0 ≤ x ∧ x < 256) ∧ G.length = c ∧ G.take B.length = B
theorem run_append_full (w : World) (i : TypeInfo) (ty : TypeId) (hi : Try.prog.info? 5 = some i) (hz : i.zero = some (.int .u8 0)) (h1 : i.size = 1) (h2 : i.bytes = 1)
    (g : Nat) (ad : Addr) (c : Nat) (B : List Int) (hB : LiesB w (.slice (some ad) B.length c) B) (hl : B.length ≤ 4000000) (hg : obj w g 5 []) :
    ∃ p c' w', (Builtin.append_ #[23, 23] ty #[.slice (some ⟨g, 0, none⟩) 0 0, .slice (some ad) B.length c]).run Try.prog w = .ok (.slice (some ⟨p, 0, none⟩) B.length c') w' ∧ B.length ≤ c' ∧ c' ≤ maxLen ∧ FB w' p c' B ∧ turned w w' [] ∧ (p = g ∨ w.heap.size ≤ p) := by
  rcases Nat.eq_zero_or_pos B.length with h0 | h0
  · have hB0 : B = [] := List.eq_nil_of_length_eq_zero h0
    subst hB0
    have hrun := run_append_room_cells (P := Try.prog) w 23 ty 5 i Try.underlying23 hi g 0 0 0 ad 0 c [] (by simp) (by simp) (by simp) (Nat.le_refl _) (by simp) (by simp)
    exact ⟨g, 0, w, hrun, Nat.le_refl _, by decide, ⟨[], hg, by simp, rfl, rfl⟩, turned_refl _ _, .inl rfl⟩
  · have hge := grownCap_ge w (0 + B.length) 0 5
    have hcm := grownCap_le_maxLen w (0 + B.length) 0 5 (by unfold maxLen; omega)
    have hcells : ∀ j u, (flat cB B)[j]? = some u → w.cell? (ad.add j) = some u := fun j u hu => by
      obtain ⟨_, a', cap', e, _, _, hc⟩ := hB.1
      cases e
      obtain ⟨b, off, e2, _, hc2⟩ := hc h0
      cases e2
      rw [adr1]
      exact hc2 j u hu
    have hr := run_append_grow (P := Try.prog) w 23 ty 5 i (.int .u8 0) Try.underlying23 hi hz ⟨g, 0, none⟩ 0 0 [] (by simp) (by simp) ad B.length c (flat cB B) (by rw [flat_len cB_len, h1]) hcells (by omega) (by omega) (growslice_fits (by omega) (by rw [h2]; omega))
    rw [Nat.zero_add] at hr hge hcm
    refine ⟨w.heap.size, _, _, hr, hge, hcm, ⟨B ++ List.replicate (grownCap w B.length 0 5 - B.length) 0, ?_, ?_, ?_, by simp⟩, turned_alloc (turned_drew w []) _, .inr (Nat.le_refl _)⟩
    · have := heap_alloc_new w.drew (.cells (#[] ++ (flat cB B).toArray ++ Builtin.zeroCells (Value.int .u8 0).cells (grownCap w B.length 0 5 - B.length)) 5)
      unfold obj
      rw [flat_app, ← zeros_u8]
      rw [show ((flat cB B ++ (Builtin.zeroCells (Value.int .u8 0).cells (grownCap w B.length 0 5 - B.length)).toList).toArray) = #[] ++ (flat cB B).toArray ++ Builtin.zeroCells (Value.int .u8 0).cells (grownCap w B.length 0 5 - B.length) by apply Array.ext'; simp]
      exact this
    · intro x hx
      rcases List.mem_append.1 hx with hx | hx
      · exact hB.2 x hx
      · rw [List.mem_replicate] at hx; omega
    · simp; omega
theorem wpList_append_full (w : World) {ops : Array Oper} {rest : List Oper} {o : Oper} {a : Act} {Q : Exit → Act → World → Prop} (hgd : o.guard = none) (s x : Operand)
    (ho : o.op = .call { callee := .builtin .append, args := #[s, x], argTypes := #[23, 23] })
    (i : TypeInfo) (hi : Try.prog.info? 5 = some i) (hz : i.zero = some (.int .u8 0)) (h1 : i.size = 1) (h2 : i.bytes = 1)
    (g : Nat) (hs : a.eval s = .slice (some ⟨g, 0, none⟩) 0 0) (hg : obj w g 5 []) (ad : Addr) (c : Nat) (B : List Int) (hx : a.eval x = .slice (some ad) B.length c) (hB : LiesB w (.slice (some ad) B.length c) B) (hl : B.length ≤ 4000000)
    (h : ∀ p c' w', B.length ≤ c' → c' ≤ maxLen → FB w' p c' B → turned w w' [] → (p = g ∨ w.heap.size ≤ p) → wpList Try.prog ops Q rest (a.put o.dst (.slice (some ⟨p, 0, none⟩) B.length c')) w') : wpList Try.prog ops Q (o :: rest) a w := by
  refine wpList_plain hgd fun K hK => ?_
  obtain ⟨p, c', w', hrun, q1, q2, q3, q4, q5⟩ := run_append_full w i o.type hi hz h1 h2 g ad c B hB hl hg
  unfold Oper.wp execOp
  simp only [ho, resolve, invoke, builtin, Sem.run_bind, Sem.run_pure, Result.andThen_ok, List.map_toArray, List.map_cons, List.map_nil, hs, hx, hrun]
  exact hK _ _ (h p c' w' q1 q2 q3 q4 q5)
/-- Such a block is an own row. -/
theorem full_row {w : World} {p base c : Nat} {B G : List Int} (h : obj w p 5 (flat cB G)) (hb : base ≤ p) (h1 : B.length ≤ c) (h2 : c ≤ maxLen) (hl : G.length = c) (ht : G.take B.length = B) : w.ownsRow base 5 1 (.slice (some ⟨p, 0, none⟩) B.length c) B.length (flat cB B) :=
  ⟨by rw [flat_len cB_len], .inr ⟨p, c, (flat cB G).toArray, rfl, hb, h, h1, h2, by simp [flat_len cB_len, hl], by
    have := flat_take (c := cB) cB_len G B.length
    rw [ht] at this
    rw [this]⟩⟩
set_option maxHeartbeats 1000000 in
theorem bcloneF (v : Value) (B : List Int) (w : World) (hv : LiesB w v B) (hB : B.length ≤ 4000000) :
    Calls Try.prog 25 #[v] w fun e w' => ∃ a c, e = .returned (.slice a B.length c) ∧ (w'.ownsRow w.heap.size 5 1 (.slice a B.length c) B.length (flat cB B) ∧ full w' a c) ∧ turned w w' [] := by
  obtain ⟨a, cap, rfl, hc1, hc2⟩ := hv.1.form
  have HV := Lib.hid hv
  clear hv
  obtain ⟨i0, hi0, hz0, hz1, hz2⟩ := info_parts infoB
  have hnil := fun w => Lib.run_eql_slice_nil (P := Try.prog) w 23 5 a B.length cap 0 0 Try.underlying23
  cases a with
  | none =>
    have h0 : B.length = 0 := by
      rcases Nat.eq_zero_or_pos B.length with h | h
      · exact h
      · obtain ⟨b, off, e, _⟩ := HV.out.cell 0 h
        cases e
    have hS0 : B = [] := List.eq_nil_of_length_eq_zero h0
    subst hS0
    simp only [List.length_nil] at hnil ⊢
    go_enter Try.func25, Try.ntmps25
    go_wp2
    go_ret
    exact ⟨_, _, rfl, ⟨World.ownsRow_nil _ _ _ _, fun p e => by cases e⟩, turned_refl _ _⟩
  | some ad =>
    go_enter Try.func25, Try.ntmps25
    go_wp2_with (first | (at_builtin; refine wpList_append_full _ rfl _ _ rfl i0 hi0 hz0 hz1 hz2 w.heap.size rfl (obj.new w 5 []) _ _ B rfl (HV.out.none_ (turned_alloc (turned_refl w []) _)) hB ?_) | go_in)
    intro p c' w' h1 h2 h3 h4 h5
    obtain ⟨G, g1, g2, g3, g4⟩ := h3
    have hp : w.heap.size ≤ p := by
      rcases h5 with rfl | h5
      · exact Nat.le_refl _
      · have h6 : w.heap.size ≤ (w.alloc (.cells #[] 5)).heap.size := (turned_alloc (turned_refl w []) (.cells #[] 5)).2.2.2.1
        omega
    have HR := Lib.hid (full_row g1 hp h1 h2 g3 g4)
    have HF := Lib.hid (show full w' (some ⟨p, 0, none⟩) c' from fun q e => by cases e; exact ⟨G, g1, g2, g3⟩)
    have TT := Lib.hid (turned_trans (turned_alloc (turned_refl w []) (.cells #[] 5)) h4)
    clear h1 h2 g1 g2 g3 g4 h4 h5 hp
    go_wp2
    go_ret
    exact ⟨_, _, rfl, ⟨HR.out, HF.out⟩, TT.out⟩
end Go.Proofs.Ytcfpgeceenkheaa
