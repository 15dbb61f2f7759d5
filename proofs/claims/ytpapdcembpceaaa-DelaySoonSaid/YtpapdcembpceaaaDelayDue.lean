/- Due and When of a delay and of its reference. Conditions as in the other methods. -/
import Derived.Test.YtpapdcembpceaaaDelayFns
import Derived.Laws.EntriesVeiled
namespace Go.Proofs.Ytpapdcembpceaaa
open Go.RowKit
set_option linter.unusedVariables false
set_option linter.unusedSimpArgs false

set_option maxRecDepth 100000 in
set_option maxHeartbeats 2000000 in
theorem due_u (ti ma fi : Int) (k1 : 0 ≤ ti) (k2 : ti ≤ 1048576) (k3 : 0 < ma) (k4 : ma ≤ 2) (k5 : 0 ≤ fi) (k6 : fi ≤ 2305843009213693952) (b : Nat) (now : Int) (w : World) (hx : obj w b 45 (DS.cells ⟨ti, ma, fi, true⟩)) :
    Calls Try.prog 18 #[.pointer (some ⟨b, 0, none⟩), .int .i64 now] w fun e w' => e = .returned (.bool true) ∧ w.grownBy w' none := by
  have c0 := hx.cell 0 rfl
  have c1 := hx.cell 1 rfl
  have c2 := hx.cell 2 rfl
  have c3 := hx.cell 3 rfl
  have hb := hx.lt
  have hb1 : b < w.heap.size + 1 := by omega
  have hb2 : b < w.heap.size + 1 + 1 := by omega
  have hb3 : b < w.heap.size + 1 + 1 + 1 := by omega
  have z : (ma == 0) = false := by simp; omega
  simp only at c0 c1 c2 c3
  clear hx
  go_enter Try.func18, Try.ntmps18
  go_wp2
  go_rounds 3
  go_ret
  exact ⟨rfl, by repeat (first | exact only_refl _ _ | apply only_drew | apply only_alloc)⟩

set_option maxRecDepth 100000 in
set_option maxHeartbeats 2000000 in
theorem due_m (ti ma fi : Int) (k1 : 0 ≤ ti) (k2 : ti ≤ 1048576) (k3 : 0 < ma) (k4 : ma ≤ 2) (k5 : 0 ≤ fi) (k6 : fi ≤ 2305843009213693952) (b : Nat) (now : Int) (h1 : 1 < ma) (w : World) (hx : obj w b 45 (DS.cells ⟨ti, ma, fi, false⟩)) :
    Calls Try.prog 18 #[.pointer (some ⟨b, 0, none⟩), .int .i64 now] w fun e w' => e = .returned (.bool true) ∧ w.grownBy w' none := by
  have c0 := hx.cell 0 rfl
  have c1 := hx.cell 1 rfl
  have c2 := hx.cell 2 rfl
  have c3 := hx.cell 3 rfl
  have hb := hx.lt
  have hb1 : b < w.heap.size + 1 := by omega
  have hb2 : b < w.heap.size + 1 + 1 := by omega
  have hb3 : b < w.heap.size + 1 + 1 + 1 := by omega
  have z : (ma == 0) = false := by simp; omega
  simp only at c0 c1 c2 c3
  clear hx
  go_enter Try.func18, Try.ntmps18
  go_wp2
  go_rounds 3
  go_ret
  exact ⟨rfl, by repeat (first | exact only_refl _ _ | apply only_drew | apply only_alloc)⟩

set_option maxRecDepth 100000 in
set_option maxHeartbeats 2000000 in
theorem due_y (ti ma fi : Int) (k1 : 0 ≤ ti) (k2 : ti ≤ 1048576) (k3 : 0 < ma) (k4 : ma ≤ 2) (k5 : 0 ≤ fi) (k6 : fi ≤ 2305843009213693952) (b : Nat) (now : Int) (h1 : ma = 1) (h2 : fi + ti ≤ now) (w : World) (hx : obj w b 45 (DS.cells ⟨ti, ma, fi, false⟩)) :
    Calls Try.prog 18 #[.pointer (some ⟨b, 0, none⟩), .int .i64 now] w fun e w' => e = .returned (.bool true) ∧ w.grownBy w' none := by
  have c0 := hx.cell 0 rfl
  have c1 := hx.cell 1 rfl
  have c2 := hx.cell 2 rfl
  have c3 := hx.cell 3 rfl
  have hb := hx.lt
  have hb1 : b < w.heap.size + 1 := by omega
  have hb2 : b < w.heap.size + 1 + 1 := by omega
  have hb3 : b < w.heap.size + 1 + 1 + 1 := by omega
  have z : (ma == 0) = false := by simp; omega
  simp only at c0 c1 c2 c3
  clear hx
  go_enter Try.func18, Try.ntmps18
  go_wp2
  go_rounds 3
  go_region
  go_wp2
  go_ret
  exact ⟨rfl, by repeat (first | exact only_refl _ _ | apply only_drew | apply only_alloc)⟩

set_option maxRecDepth 100000 in
set_option maxHeartbeats 2000000 in
theorem due_n (ti ma fi : Int) (k1 : 0 ≤ ti) (k2 : ti ≤ 1048576) (k3 : 0 < ma) (k4 : ma ≤ 2) (k5 : 0 ≤ fi) (k6 : fi ≤ 2305843009213693952) (b : Nat) (now : Int) (h1 : ma = 1) (h2 : now < fi + ti) (w : World) (hx : obj w b 45 (DS.cells ⟨ti, ma, fi, false⟩)) :
    Calls Try.prog 18 #[.pointer (some ⟨b, 0, none⟩), .int .i64 now] w fun e w' => e = .returned (.bool false) ∧ w.grownBy w' none := by
  have c0 := hx.cell 0 rfl
  have c1 := hx.cell 1 rfl
  have c2 := hx.cell 2 rfl
  have c3 := hx.cell 3 rfl
  have hb := hx.lt
  have hb1 : b < w.heap.size + 1 := by omega
  have hb2 : b < w.heap.size + 1 + 1 := by omega
  have hb3 : b < w.heap.size + 1 + 1 + 1 := by omega
  have z : (ma == 0) = false := by simp; omega
  simp only at c0 c1 c2 c3
  clear hx
  go_enter Try.func18, Try.ntmps18
  go_wp2
  go_rounds 4
  go_region
  go_wp2
  all_goals (repeat any_goals (rw [rounds_succ]; go_wp2))
  go_ret
  exact ⟨rfl, by repeat (first | exact only_refl _ _ | apply only_drew | apply only_alloc)⟩

set_option maxHeartbeats 1000000 in
theorem due_0 (ti fi : Int) (ur : Bool) (b : Nat) (now : Int) (w : World) (hx : obj w b 45 (DS.cells ⟨ti, 0, fi, ur⟩)) :
    Calls Try.prog 18 #[.pointer (some ⟨b, 0, none⟩), .int .i64 now] w fun e w' => e = .returned (.bool false) ∧ w.grownBy w' none := by
  have c1 := hx.cell 1 rfl
  have hb := hx.lt
  have hb1 : b < w.heap.size + 1 := by omega
  simp only at c1
  clear hx
  go_enter Try.func18, Try.ntmps18
  go_wp2
  go_ret
  exact ⟨rfl, by repeat (first | exact only_refl _ _ | apply only_drew | apply only_alloc)⟩

set_option maxHeartbeats 1000000 in
theorem due_any_nil (now : Int) (w : World) :
    Calls Try.prog 18 #[.pointer none, .int .i64 now] w fun e w' => e = .returned (.bool false) ∧ w.grownBy w' none := by
  go_enter Try.func18, Try.ntmps18
  go_wp2
  go_ret
  exact ⟨rfl, by repeat (first | exact only_refl _ _ | apply only_drew | apply only_alloc)⟩

theorem due_any (x : DS) (hok : x.ok) (b : Nat) (now : Int) (w : World) (hx : obj w b 45 x.cells) :
    Calls Try.prog 18 #[.pointer (some ⟨b, 0, none⟩), .int .i64 now] w fun e w' => e = .returned (.bool (x.due now)) ∧ w.grownBy w' none := by
  obtain ⟨ti, ma, fi, ur⟩ := x
  obtain ⟨k1, k2, k3, k4, k5, k6⟩ := hok
  simp only at k1 k2 k3 k4 k5 k6
  by_cases h0 : ma = 0
  · subst h0
    have e : DS.due ⟨ti, 0, fi, ur⟩ now = false := by simp [DS.due]
    rw [e]
    exact due_0 ti fi ur b now w hx
  · have h1 : 0 < ma := by omega
    cases ur
    · by_cases h2 : 1 < ma
      · have e : DS.due ⟨ti, ma, fi, false⟩ now = true := by simp [DS.due]; omega
        rw [e]
        exact due_m ti ma fi k1 k2 h1 k4 k5 k6 b now h2 w hx
      · by_cases h3 : fi + ti ≤ now
        · have e : DS.due ⟨ti, ma, fi, false⟩ now = true := by simp [DS.due]; omega
          rw [e]
          exact due_y ti ma fi k1 k2 h1 k4 k5 k6 b now (by omega) h3 w hx
        · have e : DS.due ⟨ti, ma, fi, false⟩ now = false := by simp [DS.due]; omega
          rw [e]
          exact due_n ti ma fi k1 k2 h1 k4 k5 k6 b now (by omega) (by omega) w hx
    · have e : DS.due ⟨ti, ma, fi, true⟩ now = true := by simp [DS.due]; omega
      rw [e]
      exact due_u ti ma fi k1 k2 h1 k4 k5 k6 b now w hx

end Go.Proofs.Ytpapdcembpceaaa
