/- What Expire tells of a message; its test of one message. Conditions: the item and the boxes lie in memory. -/
import Derived.Test.YtibnjakiagcopaaOutqNext2
namespace Go.Proofs.Ytibnjakiagcopaa
open Go.RowKit Go.Deep
set_option linter.unusedVariables false
set_option linter.unusedSimpArgs false

set_option maxHeartbeats 2000000 in
theorem orest (g : Nat) (bv : Value) (x : IT) (w : World) (h : obj w g 69 (cIT bv x)) :
    Calls Try.prog 31 #[.pointer (some ⟨g, 0, none⟩)] w fun e w' => ∃ q, e = .returned (.agg #[.int .u32 0, .int .u16 x.s, .int .u16 x.ssn, .bool !x.o, .bool false, .bool true, .slice (some ⟨q, 0, none⟩) 1 1]) ∧
      w'.ownsRow w.heap.size 5 1 (.slice (some ⟨q, 0, none⟩) 1 1) 1 (flat cB [0]) ∧ turned w w' [] := by
  have h0 := h.alloc (.cells #[.int .u32 0, .int .u16 0, .int .u16 0, .bool false, .bool false, .bool false, .slice none 0 0] 34)
  have c0 := h0.cell 0 rfl
  have c1 := h0.cell 1 rfl
  have c6 := h0.cell 6 rfl
  have k0 := h.cell 0 rfl
  have k1 := h.cell 1 rfl
  have k6 := h.cell 6 rfl
  have H := Lib.hid h
  clear h h0
  go_enter Try.func31, Try.ntmps31
  go_wp2_with fail
  go_region_held3 (fun w' => w'.cell? ⟨g, 0, none⟩ = some (.int .u16 x.s) ∧ w'.cell? ⟨g, 1, none⟩ = some (.bool x.o) ∧ w'.cell? ⟨g, 6, none⟩ = some (.int .u16 x.ssn)) (first | (simp [go_sem, *]; done) | go_keep) (fail)
  go_wp2_with fail
  refine bodyPost_ret (results_cell_row rfl _ _ w.heap.size 34 #[.int .u32 0, .int .u16 x.s, .int .u16 x.ssn, .bool !x.o, .bool false, .bool true, .slice (some ⟨w.heap.size + 1, 0, none⟩) 1 1] (0, 0) _ rfl ?_ Try.underlying34 rfl (by kernel_rfl)) rfl ?_
  · exact ((obj.new w 34 [.int .u32 0, .int .u16 x.s, .int .u16 x.ssn, .bool !x.o, .bool false, .bool true, .slice (some ⟨w.heap.size + 1, 0, none⟩) 1 1]).alloc _).drew
  · refine ⟨w.heap.size + 1, rfl, ?_, turned_drew' (turned_alloc (turned_alloc (turned_refl _ _) _) _)⟩
    have e : (w.alloc (.cells #[.int .u32 0, .int .u16 x.s, .int .u16 x.ssn, .bool !x.o, .bool false, .bool true, .slice (some ⟨w.heap.size + 1, 0, none⟩) 1 1] 34)).heap.size = w.heap.size + 1 := by simp
    have hr := World.ownsRow_lit (base := w.heap.size) (e := 5) (size := 1) (w.alloc (.cells #[.int .u32 0, .int .u16 x.s, .int .u16 x.ssn, .bool !x.o, .bool false, .bool true, .slice (some ⟨w.heap.size + 1, 0, none⟩) 1 1] 34)) #[.int .u8 0] 1 (by rw [e]; omega) (by unfold maxLen; omega) (by simp)
    rw [e] at hr
    exact row_past hr (turned_drew _ []) (by simp)
/-- What Expire gathers: how much is let go; the piece, whether there is one, its message. -/
structure XS where
  gone : Int
  s : Int
  n : Int
  u : Bool
  some : Bool
  B : List Int
  id : Int
def XS.zero : XS := ⟨0, 0, 0, false, false, [], 0⟩
def IT.goes (x : IT) (now : Int) : Bool := decide (1 ≤ x.un ∧ x.un ≤ now)
def XS.step (now : Int) (X : XS) (x : IT) : XS :=
  if x.goes now = true then (if 0 < x.at_ then ⟨X.gone + x.left - 1, x.s, x.ssn, !x.o, true, [0], x.id⟩ else { X with gone := X.gone + x.left }) else X
def cD (X : XS) (bv : Value) : List Value := [.int .u32 0, .int .u16 X.s, .int .u16 X.n, .bool X.u, .bool false, .bool X.some, bv]
def boxIs (w : World) (base nb gb db ib sb : Nat) (bv : Value) (now : Int) (X : XS) : Prop :=
  obj w nb 2 [.int .i64 now] ∧ obj w gb 3 [.int .i64 X.gone] ∧ obj w db 34 (cD X bv) ∧ obj w ib 3 [.int .i64 X.id] ∧ obj w sb 4 [.bool X.some] ∧ w.ownsRow base 5 1 bv X.B.length (flat cB X.B) ∧ gb ≠ ib
theorem boxIs.past {w w' : World} {base nb gb db ib sb : Nat} {bv : Value} {now : Int} {X : XS} {L : List Nat} (h : boxIs w base nb gb db ib sb bv now X) (t : turned w w' L) (hL : ∀ k, k ∈ L → k ≠ nb ∧ k ≠ gb ∧ k ≠ db ∧ k ≠ ib ∧ k ≠ sb ∧ ∀ q, bv.ownBlock = some q → k ≠ q) : boxIs w' base nb gb db ib sb bv now X :=
  ⟨h.1.past t (fun e => (hL _ e).1 rfl), h.2.1.past t (fun e => (hL _ e).2.1 rfl), h.2.2.1.past t (fun e => (hL _ e).2.2.1 rfl), h.2.2.2.1.past t (fun e => (hL _ e).2.2.2.1 rfl), h.2.2.2.2.1.past t (fun e => (hL _ e).2.2.2.2.1 rfl), row_past h.2.2.2.2.2.1 t (fun q hq e => (hL _ e).2.2.2.2.2 q hq rfl), h.2.2.2.2.2.2⟩
set_option maxHeartbeats 2000000 in
theorem oexp_no (g nb : Nat) (pg pd pi ps bv : Value) (x : IT) (now : Int) (w : World) (h : obj w g 69 (cIT bv x)) (n0 : w.cell? ⟨nb, 0, none⟩ = some (.int .i64 now)) (hx : x.goes now = false) :
    Calls Try.prog 30 #[.pointer (some ⟨g, 0, none⟩), .pointer (some ⟨nb, 0, none⟩), pg, pd, pi, ps] w (Reads w (.bool false)) := by
  have c4 := h.cell 4 rfl
  unfold IT.goes at hx
  have hg := of_decide_eq_false hx
  clear h hx
  by_cases h1 : x.un < 1
  · have d1 : decide (x.un < 1) = true := decide_eq_true h1
    go_enter Try.func30, Try.ntmps30
    go_wp2_with fail
    go_quiet (fail)
    go_wp2_with fail
    go_ret
    exact ⟨rfl, _, rfl⟩
  · have d1 : decide (x.un < 1) = false := decide_eq_false h1
    have d2 : decide (now < x.un) = true := decide_eq_true (by omega)
    go_enter Try.func30, Try.ntmps30
    go_wp2_with fail
    go_quiet (fail)
    go_wp2_with fail
    go_ret
    exact ⟨rfl, _, rfl⟩
end Go.Proofs.Ytibnjakiagcopaa
