/- The next piece. Conditions: the queue lies in memory. -/
import Derived.Test.YtibnjakiagcopaaOutqFront
import Derived.Laws.Rows
namespace Go.Proofs.Ytibnjakiagcopaa
open Go.RowKit Go.Deep
set_option linter.unusedVariables false
set_option linter.unusedSimpArgs false

theorem results_cell3 {P : Program} {fn : Func} {p t u : Tmp} {ty : TypeId} (h : fn.results = #[.cell p ty, .tmp t, .tmp u]) (tmps : Array Value) (w : World) (g : Nat) (t' : TypeId) (cs : Array Value) (fr : Nat × Nat) (d : TypeDesc)
    (hp : tmps.getD p undef = .pointer (some ⟨g, 0, none⟩)) (hg : w.heap[g]? = some (.cells cs t' fr))
    (hu : P.underlying ty = some d) (hd : (match d with | .struct _ | .array _ _ => true | _ => false) = true) (hi : (P.info? ty).map (·.size) = some cs.size) :
    (results fn tmps).run P w = .ok (.tuple #[.agg cs, tmps.getD t undef, tmps.getD u undef]) w := by
  have hp' : tmps[p]?.getD undef = .pointer (some ⟨g, 0, none⟩) := by simpa using hp
  simp [results, h, hp', asAddr, run_loadVar_row w g t' ty cs fr d hg hu hd hi]
/-- A piece without anything. -/
def noData : Value := .agg #[.int .u32 0, .int .u16 0, .int .u16 0, .bool false, .bool false, .bool false, .slice none 0 0]
set_option maxRecDepth 100000 in
set_option maxHeartbeats 4000000 in
theorem onext_nil (m : Int) (w : World) :
    Calls Try.prog 11 #[.pointer none, .int .i64 m] w fun e w' => e = .returned (.tuple #[noData, .int .i64 0, .bool false]) ∧ turned w w' [] := by
  have oD := obj.new w 34 [.int .u32 0, .int .u16 0, .int .u16 0, .bool false, .bool false, .bool false, .slice none 0 0]
  have c0 := oD.cell 0 rfl
  have c1 := oD.cell 1 rfl
  have c2 := oD.cell 2 rfl
  have c3 := oD.cell 3 rfl
  have c4 := oD.cell 4 rfl
  have c5 := oD.cell 5 rfl
  have c6 := oD.cell 6 rfl
  go_enter Try.func11, Try.ntmps11
  go_wp2_with fail
  (try simp only [Exit.inBlock, Exit.then])
  refine bodyPost_ret (results_cell3 rfl _ _ w.heap.size 34 #[.int .u32 0, .int .u16 0, .int .u16 0, .bool false, .bool false, .bool false, .slice none 0 0] (0, 0) _ rfl ?_ Try.underlying34 rfl (by kernel_rfl)) rfl ?_
  · exact oD
  · exact ⟨rfl, turned_alloc (turned_refl _ _) _⟩
set_option maxRecDepth 100000 in
set_option maxHeartbeats 4000000 in
theorem onext_none (b : Nat) (F : List Nat) (S : QS) (n : Nat) (m : Int) (w : World) (h : outIs w b F S) (hk : S.ok n) (hn : n ≤ 1000000) (hm : S.L = [] ∨ m < 1) :
    Calls Try.prog 11 #[.pointer (some ⟨b, 0, none⟩), .int .i64 m] w fun e w' => e = .returned (.tuple #[noData, .int .i64 0, .bool false]) ∧ turned w w' [] := by
  obtain ⟨v, sv, Z, rfl, h1, h2, h3, h4, h5, h6⟩ := h
  obtain ⟨a, cap, rfl, hc1, hc2, _⟩ := h2.form
  have hZ : Z.length = S.L.length := by rw [← h4, List.length_map]
  have o1 := h1.alloc (.cells #[.int .u32 0, .int .u16 0, .int .u16 0, .bool false, .bool false, .bool false, .slice none 0 0] 34)
  have b0 := o1.cell 0 rfl
  have oD := obj.new w 34 [.int .u32 0, .int .u16 0, .int .u16 0, .bool false, .bool false, .bool false, .slice none 0 0]
  have c0 := oD.cell 0 rfl
  have c1 := oD.cell 1 rfl
  have c2 := oD.cell 2 rfl
  have c3 := oD.cell 3 rfl
  have c4 := oD.cell 4 rfl
  have c5 := oD.cell 5 rfl
  have c6 := oD.cell 6 rfl
  clear h1 h2 h3 h5 h6 hk o1
  by_cases hl : S.L.length = 0
  · rw [hl] at hZ
    rw [hZ] at b0 hc1
    clear hm hl hZ h4
    go_enter Try.func11, Try.ntmps11
    go_wp2_with fail
    (try simp only [Exit.inBlock, Exit.then])
    refine bodyPost_ret (results_cell3 rfl _ _ w.heap.size 34 #[.int .u32 0, .int .u16 0, .int .u16 0, .bool false, .bool false, .bool false, .slice none 0 0] (0, 0) _ rfl ?_ Try.underlying34 rfl (by kernel_rfl)) rfl ?_
    · exact oD
    · exact ⟨rfl, turned_alloc (turned_refl _ _) _⟩
  · have hm' : m < 1 := hm.resolve_left (fun e => hl (by rw [e]; rfl))
    have d1 : decide (m < 1) = true := decide_eq_true hm'
    have d0 : ((Z.length : Int) == 0) = false := beq_eq_false_iff_ne.2 (by omega)
    generalize Z.length = zn at *
    clear hm hl hZ h4
    go_enter Try.func11, Try.ntmps11
    go_wp2_with fail
    (try simp only [Exit.inBlock, Exit.then])
    refine bodyPost_ret (results_cell3 rfl _ _ w.heap.size 34 #[.int .u32 0, .int .u16 0, .int .u16 0, .bool false, .bool false, .bool false, .slice none 0 0] (0, 0) _ rfl ?_ Try.underlying34 rfl (by kernel_rfl)) rfl ?_
    · exact oD
    · exact ⟨rfl, turned_alloc (turned_refl _ _) _⟩
end Go.Proofs.Ytibnjakiagcopaa
