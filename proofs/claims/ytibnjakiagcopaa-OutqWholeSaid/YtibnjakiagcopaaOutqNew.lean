/- A new queue; a stream's next number. Conditions: sizes as the document allows. -/
import Derived.Test.YtibnjakiagcopaaOutqFns
namespace Go.Proofs.Ytibnjakiagcopaa
open Go.RowKit Go.Deep
set_option linter.unusedVariables false
set_option linter.unusedSimpArgs false

theorem infoN : (Try.prog.info? 22).map (fun i => (i.zero, i.size, i.bytes)) = some (some (.int .u16 0), 1, 2) := by kernel_rfl
theorem row_base0 {w : World} {base b2 : Nat} {e : TypeId} {sz n : Nat} {v : Value} {xs : List Value} (h : w.ownsRow base e sz v n xs) (hb : b2 ≤ base) : w.ownsRow b2 e sz v n xs := by
  refine ⟨h.1, ?_⟩
  rcases h.2 with k | ⟨g1, cap, cur, rfl, hg, r⟩
  · exact .inl k
  · exact .inr ⟨g1, cap, cur, rfl, by omega, r⟩
/-- A piece more: its bytes are new (in block W.heap.size or later); then the row has grown; then the row's variable (block c) is written. -/
def newQ (k : Nat) (r : Int) : QS := ⟨[], 0, r, 0, List.replicate k 0⟩
theorem newQ_ok (k : Nat) (r : Int) (hk : 1 ≤ k ∧ k ≤ 16) (hr : 1 ≤ r ∧ r ≤ 1048576) (n : Nat) : (newQ k r).ok n where
  l := Nat.zero_le _
  m0 := Int.le_refl _
  m1 := by show (0 : Int) ≤ _; omega
  r0 := hr.1
  r1 := hr.2
  u0 := Int.le_refl _
  u1 := by show (0 : Int) ≤ r; omega
  k0 := by simp [newQ]; omega
  k1 := by simp [newQ]; omega
  ks := by intro x hx; simp [newQ] at hx; omega
  it := by intro x hx; simp [newQ] at hx
set_option maxHeartbeats 2000000 in
theorem onew (k : Nat) (r : Int) (hk : 1 ≤ k ∧ k ≤ 16) (hr : 1 ≤ r ∧ r ≤ 1048576) (w : World) :
    Calls Try.prog 9 #[.int .i64 (k : Int), .int .i64 r] w fun e w' => ∃ g F, e = .returned (.tuple #[.pointer (some ⟨g, 0, none⟩), .int .i64 0]) ∧ outIs w' g F (newQ k r) ∧ (∀ x, x ∈ F → w.heap.size ≤ x) ∧ turned w w' [] := by
  obtain ⟨k1, k2⟩ := hk
  obtain ⟨r1, r2⟩ := hr
  obtain ⟨i0, hi0, hz0, hz1, hz2⟩ := info_parts infoN
  have hmk : ∀ w : World, (Instr.makeSlice 62 (.int .i64 (k : Int)) (.int .i64 (k : Int))).run Try.prog w = .ok (.slice (some ⟨w.heap.size, 0, none⟩) k k) (w.alloc (.cells (madeCells #[.int .u16 0] k) 22)) := fun w => by
    have := run_makeSlice (P := Try.prog) w 62 22 i0 (.int .u16 0) Try.underlying62 hi0 hz0 .i64 .i64 (k : Int) (k : Int) (by omega) (Int.le_refl _) (by rw [hz1]; omega) (by rw [hz2]; omega) (by omega)
    simpa [hz1, Value.cells] using this
  have hmo : (w.alloc (.cells (madeCells #[.int .u16 0] k) 22)).ownsRow w.heap.size 22 1 (.slice (some ⟨w.heap.size, 0, none⟩) k k) k (flat cN (List.replicate k 0)) := by
    have h := World.ownsRow_lit (base := w.heap.size) (e := 22) (size := 1) w (madeCells #[.int .u16 0] k) k (Nat.le_refl _) (by unfold maxLen; omega) (by rw [size_madeCells]; simp)
    have e : (madeCells #[.int .u16 0] k).toList = flat cN (List.replicate k 0) := by
      simp [madeCells, flat, cN, Nat.mod_one]
      rw [List.eq_replicate_iff]
      exact ⟨by simp, fun b hb => by simp at hb; exact hb.2.symm⟩
    rw [e] at h
    exact h
  have HMO := Lib.hid hmo
  clear hmo hi0 hz0 hz1 hz2
  go_enter Try.func9, Try.ntmps9
  go_wp2
  go_ret2
  have T := turned_alloc (turned_alloc (turned_refl w []) (.cells (madeCells #[.int .u16 0] k) 22)) (.cells #[.slice none 0 0, .int .i64 0, .int .i64 r, .int .i64 0, .slice (some ⟨w.heap.size, 0, none⟩) k k] 65)
  have hN := obj.new (w.alloc (.cells (madeCells #[.int .u16 0] k) 22)) 65 [.slice none 0 0, .int .i64 0, .int .i64 r, .int .i64 0, .slice (some ⟨w.heap.size, 0, none⟩) k k]
  have hsz : (w.alloc (.cells (madeCells #[.int .u16 0] k) 22)).heap.size = w.heap.size + 1 := by simp
  rw [hsz] at hN
  refine ⟨_, _, rfl, ⟨.slice none 0 0, .slice (some ⟨w.heap.size, 0, none⟩) k k, [], rfl, hN, offRow.nil _ _ _ _, ?_, rfl, by simp, by simp⟩, ?_, T⟩
  · simp only [newQ, List.length_replicate]
    exact row_base0 (row_past (L := []) HMO.out (turned_alloc (turned_refl _ _) _) (by simp)) (Nat.zero_le _)
  · intro x hx
    simp [foot, zfoot, Value.ownBlock] at hx
    omega
set_option maxHeartbeats 1000000 in
theorem onew_bad (k r : Int) (h : ¬ (1 ≤ k ∧ k ≤ 16 ∧ 1 ≤ r ∧ r ≤ 1048576)) (w : World) :
    Calls Try.prog 9 #[.int .i64 k, .int .i64 r] w fun e w' => e = .returned (.tuple #[.pointer none, .int .i64 1]) ∧ w = w' := by
  by_cases h1 : k < 1
  · have d : decide (k < 1) = true := decide_eq_true h1
    go_enter Try.func9, Try.ntmps9
    go_wp2
    go_ret2
    exact ⟨rfl, rfl⟩
  by_cases h2 : 16 < k
  · have d : decide (k < 1) = false := decide_eq_false h1
    have d2 : decide (16 < k) = true := decide_eq_true h2
    go_enter Try.func9, Try.ntmps9
    go_wp2
    go_ret2
    exact ⟨rfl, rfl⟩
  by_cases h3 : r < 1
  · have d : decide (k < 1) = false := decide_eq_false h1
    have d2 : decide (16 < k) = false := decide_eq_false h2
    have d3 : decide (r < 1) = true := decide_eq_true h3
    go_enter Try.func9, Try.ntmps9
    go_wp2
    go_ret2
    exact ⟨rfl, rfl⟩
  · have d : decide (k < 1) = false := decide_eq_false h1
    have d2 : decide (16 < k) = false := decide_eq_false h2
    have d3 : decide (r < 1) = false := decide_eq_false h3
    have d4 : decide (1048576 < r) = true := decide_eq_true (by omega)
    go_enter Try.func9, Try.ntmps9
    go_wp2
    go_ret2
    exact ⟨rfl, rfl⟩
set_option maxHeartbeats 2000000 in
theorem onext_no (sv : Value) (G : List Int) (i : Nat) (hi : i < G.length) (w : World) (hk : G.length ≤ 16) (h : w.ownsRow 0 22 1 sv G.length (flat cN G)) (hx : 0 ≤ G[i] ∧ G[i] < 65536) :
    Calls Try.prog 27 #[sv, .int .u16 (i : Int)] w fun e w' => e = .returned (.int .u16 G[i]) ∧ w'.ownsRow 0 22 1 sv G.length (flat cN (G.set i ((G[i] + 1) % 65536))) ∧ turned w w' sv.ownBlock.toList := by
  obtain ⟨a, c, rfl, hc1, hc2, ha⟩ := row_form h
  obtain ⟨g, rfl⟩ := ha (by omega)
  have hc2' : c ≤ 9223372036854775807 := hc2
  have ef := h.frozenAt i
  have ec := h.cellAt i (by omega)
  rw [flatN_at _ i hi] at ec
  obtain ⟨x, hxx⟩ : ∃ x, G[i] = x := ⟨_, rfl⟩
  obtain ⟨n, hn⟩ : ∃ n, G.length = n := ⟨_, rfl⟩
  rw [hxx] at hx ec ⊢
  have hst := (h.stored i (.int .u16 ((x + 1) % 65536))).1
  have e := flat_set cN_len G i hi 0 (by omega) (.int .u16 ((x + 1) % 65536)) ((x + 1) % 65536) rfl
  rw [Nat.mul_one, Nat.add_zero] at e
  rw [e] at hst
  have s1 : IntKind.u16.wrap (x + 1) = (x + 1) % 65536 := by simp [IntKind.wrap, IntKind.signed, IntKind.bits]
  have s2 : IntKind.u16.wrap ((x + 1) % 65536 - 1) = x := by simp [IntKind.wrap, IntKind.signed, IntKind.bits]; omega
  have HS := Lib.hid hst
  clear hst e h ha
  rw [hn] at hi hk hc1 HS ⊢
  clear hn hxx
  go_enter Try.func27, Try.ntmps27
  go_wp2
  go_ret
  exact ⟨rfl, HS.out, turned_set (turned_refl _ _) (by simp [Value.ownBlock]) _⟩
end Go.Proofs.Ytibnjakiagcopaa
