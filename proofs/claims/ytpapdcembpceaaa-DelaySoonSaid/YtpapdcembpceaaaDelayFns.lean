/- The delay of package delay and its reference, each method by the plain function that it computes. Conditions: the object lies in memory with these fields, within their ranges. -/
import Derived.Test.YtpapdcembpceaaaObj
namespace Go.Proofs.Ytpapdcembpceaaa
open Go.RowKit
set_option linter.unusedVariables false
set_option linter.unusedSimpArgs false

structure DS where
  ticks : Int
  many : Int
  first : Int
  urgent : Bool

def DS.cells (x : DS) : List Value := [.int .i64 x.ticks, .int .i64 x.many, .int .i64 x.first, .bool x.urgent]
def DS.ok (x : DS) : Prop := 0 ≤ x.ticks ∧ x.ticks ≤ 1048576 ∧ 0 ≤ x.many ∧ x.many ≤ 2 ∧ 0 ≤ x.first ∧ x.first ≤ 2305843009213693952
def DS.init (t : Int) : DS := ⟨t, 0, 0, false⟩
def DS.packet (x : DS) (now : Int) (u : Bool) : DS := ⟨x.ticks, min (x.many + 1) 2, if x.many = 0 then max 0 (min now 2305843009213693952) else x.first, x.urgent || u⟩
def DS.sent (x : DS) : DS := ⟨x.ticks, 0, x.first, false⟩
def DS.due (x : DS) (now : Int) : Bool := decide (0 < x.many ∧ (x.urgent = true ∨ 1 < x.many ∨ x.first + x.ticks ≤ now))
def DS.at (x : DS) : Int := if x.many = 0 then 0 else if x.urgent = true ∨ 1 < x.many then x.first else x.first + x.ticks
def DS.some (x : DS) : Bool := decide (0 < x.many)

theorem dok_init {t : Int} (h : 0 ≤ t ∧ t ≤ 1048576) : (DS.init t).ok := by unfold DS.ok DS.init; simp; omega
theorem dok_packet {x : DS} (h : x.ok) (now : Int) (u : Bool) : (x.packet now u).ok := by
  unfold DS.ok at *; unfold DS.packet; simp only; split <;> omega
theorem dok_sent {x : DS} (h : x.ok) : x.sent.ok := by unfold DS.ok at *; unfold DS.sent; simp only; omega

set_option maxHeartbeats 400000 in
theorem new_any (t : Int) (h : 0 ≤ t ∧ t ≤ 1048576) (w : World) :
    Calls Try.prog 10 #[.int .i64 t] w fun e w' => e = .returned (.tuple #[.pointer (some ⟨w.heap.size, 0, none⟩), .int .i64 0]) ∧ obj w' w.heap.size 45 (DS.init t).cells ∧ w.grownBy w' none := by
  go_enter Try.func10, Try.ntmps10
  go_wp2
  go_ret2
  exact ⟨rfl, obj.new _ _ _, only_alloc (only_refl _ _) _⟩

set_option maxHeartbeats 400000 in
theorem new_any_bad (t : Int) (h : ¬ (0 ≤ t ∧ t ≤ 1048576)) (w : World) :
    Calls Try.prog 10 #[.int .i64 t] w fun e w' => e = .returned (.tuple #[.pointer none, .int .i64 1]) ∧ w = w' := by
  by_cases h1 : t < 0
  · clear h
    go_enter Try.func10, Try.ntmps10
    go_wp2
    go_ret2
    exact ⟨rfl, rfl⟩
  · have h2 : 1048576 < t := by omega
    clear h
    go_enter Try.func10, Try.ntmps10
    go_wp2
    go_ret2
    exact ⟨rfl, rfl⟩

set_option maxHeartbeats 1000000 in
theorem packet_any (x : DS) (hok : x.ok) (b : Nat) (now : Int) (u : Bool) (w : World) (hx : obj w b 45 x.cells) :
    Calls Try.prog 12 #[.pointer (some ⟨b, 0, none⟩), .int .i64 now, .bool u] w fun e w' => e = .returned (.tuple #[]) ∧ obj w' b 45 (x.packet now u).cells ∧ w.grownBy w' (some b) := by
  obtain ⟨ti, ma, fi, ur⟩ := x
  obtain ⟨k1, k2, k3, k4, k5, k6⟩ := hok
  simp only at k1 k2 k3 k4 k5 k6
  have c1 := hx.cell 1 rfl
  have c2 := hx.cell 2 rfl
  have c3 := hx.cell 3 rfl
  have f1 := hx.free 1
  have f2 := hx.free 2
  have f3 := hx.free 3
  simp only at c1 c2 c3
  have H := Lib.hid hx
  clear hx
  by_cases h0 : ma = 0
  · subst h0
    cases ur
    all_goals go_enter Try.func12, Try.ntmps12
    all_goals go_wp2
    all_goals go_end0
    all_goals refine ⟨rfl, ?_, by repeat (first | exact only_refl _ _ | apply only_drew | apply only_set)⟩
    all_goals refine obj_val (((H.out.set 2 _).set 1 _).set 3 _) ?_
    all_goals simp [DS.cells, DS.packet, List.set]
    all_goals omega
  · cases ur
    all_goals go_enter Try.func12, Try.ntmps12
    all_goals go_wp2
    all_goals go_end0
    all_goals refine ⟨rfl, ?_, by repeat (first | exact only_refl _ _ | apply only_drew | apply only_set)⟩
    all_goals refine obj_val ((H.out.set 1 _).set 3 _) ?_
    all_goals simp [DS.cells, DS.packet, List.set, h0]
    all_goals omega

set_option maxHeartbeats 400000 in
theorem packet_any_nil (now : Int) (u : Bool) (w : World) :
    Calls Try.prog 12 #[.pointer none, .int .i64 now, .bool u] w fun e w' => e = .returned (.tuple #[]) ∧ w = w' := by
  go_enter Try.func12, Try.ntmps12
  go_wp2
  go_returns
  exact ⟨rfl, rfl⟩

set_option maxHeartbeats 400000 in
theorem sent_any (x : DS) (b : Nat) (w : World) (hx : obj w b 45 x.cells) :
    Calls Try.prog 14 #[.pointer (some ⟨b, 0, none⟩)] w fun e w' => e = .returned (.tuple #[]) ∧ obj w' b 45 x.sent.cells ∧ w.grownBy w' (some b) := by
  obtain ⟨ti, ma, fi, ur⟩ := x
  have c1 := hx.cell 1 rfl
  have c3 := hx.cell 3 rfl
  have f1 := hx.free 1
  have f3 := hx.free 3
  simp only at c1 c3
  have H := Lib.hid hx
  clear hx
  go_enter Try.func14, Try.ntmps14
  go_wp2
  go_end0
  exact ⟨rfl, (H.out.set 1 (.int .i64 0)).set 3 (.bool false), by repeat (first | exact only_refl _ _ | apply only_drew | apply only_set)⟩

set_option maxHeartbeats 400000 in
theorem sent_any_nil (w : World) :
    Calls Try.prog 14 #[.pointer none] w fun e w' => e = .returned (.tuple #[]) ∧ w = w' := by
  go_enter Try.func14, Try.ntmps14
  go_wp2
  go_end0
  exact ⟨rfl, rfl⟩

set_option maxHeartbeats 400000 in
theorem new_ref (t : Int) (h : 0 ≤ t ∧ t ≤ 1048576) (w : World) :
    Calls Try.prog 11 #[.int .i64 t] w fun e w' => e = .returned (.tuple #[.pointer (some ⟨w.heap.size, 0, none⟩), .int .i64 0]) ∧ obj w' w.heap.size 47 (DS.init t).cells ∧ w.grownBy w' none := by
  go_enter Try.func11, Try.ntmps11
  go_wp2
  go_ret2
  exact ⟨rfl, obj.new _ _ _, only_alloc (only_refl _ _) _⟩

set_option maxHeartbeats 400000 in
theorem new_ref_bad (t : Int) (h : ¬ (0 ≤ t ∧ t ≤ 1048576)) (w : World) :
    Calls Try.prog 11 #[.int .i64 t] w fun e w' => e = .returned (.tuple #[.pointer none, .int .i64 1]) ∧ w = w' := by
  by_cases h1 : t < 0
  · clear h
    go_enter Try.func11, Try.ntmps11
    go_wp2
    go_ret2
    exact ⟨rfl, rfl⟩
  · have h2 : 1048576 < t := by omega
    clear h
    go_enter Try.func11, Try.ntmps11
    go_wp2
    go_ret2
    exact ⟨rfl, rfl⟩

set_option maxHeartbeats 1000000 in
theorem packet_ref (x : DS) (hok : x.ok) (b : Nat) (now : Int) (u : Bool) (w : World) (hx : obj w b 47 x.cells) :
    Calls Try.prog 13 #[.pointer (some ⟨b, 0, none⟩), .int .i64 now, .bool u] w fun e w' => e = .returned (.tuple #[]) ∧ obj w' b 47 (x.packet now u).cells ∧ w.grownBy w' (some b) := by
  obtain ⟨ti, ma, fi, ur⟩ := x
  obtain ⟨k1, k2, k3, k4, k5, k6⟩ := hok
  simp only at k1 k2 k3 k4 k5 k6
  have c1 := hx.cell 1 rfl
  have c2 := hx.cell 2 rfl
  have c3 := hx.cell 3 rfl
  have f1 := hx.free 1
  have f2 := hx.free 2
  have f3 := hx.free 3
  simp only at c1 c2 c3
  have H := Lib.hid hx
  clear hx
  by_cases h0 : ma = 0
  · subst h0
    cases ur
    all_goals go_enter Try.func13, Try.ntmps13
    all_goals go_wp2
    all_goals go_end0
    all_goals refine ⟨rfl, ?_, by repeat (first | exact only_refl _ _ | apply only_drew | apply only_set)⟩
    all_goals refine obj_val (((H.out.set 2 _).set 1 _).set 3 _) ?_
    all_goals simp [DS.cells, DS.packet, List.set]
    all_goals omega
  · cases ur
    all_goals go_enter Try.func13, Try.ntmps13
    all_goals go_wp2
    all_goals go_end0
    all_goals refine ⟨rfl, ?_, by repeat (first | exact only_refl _ _ | apply only_drew | apply only_set)⟩
    all_goals refine obj_val ((H.out.set 1 _).set 3 _) ?_
    all_goals simp [DS.cells, DS.packet, List.set, h0]
    all_goals omega

set_option maxHeartbeats 400000 in
theorem packet_ref_nil (now : Int) (u : Bool) (w : World) :
    Calls Try.prog 13 #[.pointer none, .int .i64 now, .bool u] w fun e w' => e = .returned (.tuple #[]) ∧ w = w' := by
  go_enter Try.func13, Try.ntmps13
  go_wp2
  go_returns
  exact ⟨rfl, rfl⟩

set_option maxHeartbeats 400000 in
theorem sent_ref (x : DS) (b : Nat) (w : World) (hx : obj w b 47 x.cells) :
    Calls Try.prog 15 #[.pointer (some ⟨b, 0, none⟩)] w fun e w' => e = .returned (.tuple #[]) ∧ obj w' b 47 x.sent.cells ∧ w.grownBy w' (some b) := by
  obtain ⟨ti, ma, fi, ur⟩ := x
  have c1 := hx.cell 1 rfl
  have c3 := hx.cell 3 rfl
  have f1 := hx.free 1
  have f3 := hx.free 3
  simp only at c1 c3
  have H := Lib.hid hx
  clear hx
  go_enter Try.func15, Try.ntmps15
  go_wp2
  go_end0
  exact ⟨rfl, (H.out.set 1 (.int .i64 0)).set 3 (.bool false), by repeat (first | exact only_refl _ _ | apply only_drew | apply only_set)⟩

set_option maxHeartbeats 400000 in
theorem sent_ref_nil (w : World) :
    Calls Try.prog 15 #[.pointer none] w fun e w' => e = .returned (.tuple #[]) ∧ w = w' := by
  go_enter Try.func15, Try.ntmps15
  go_wp2
  go_end0
  exact ⟨rfl, rfl⟩
end Go.Proofs.Ytpapdcembpceaaa
