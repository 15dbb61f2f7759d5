/- The methods of a ring of things of type bool. Conditions: the ring lies in memory with these things. -/
import Derived.Test.YtplbgfjemcpcpaaRing
import Derived.WalkLawsBesides
import Derived.Laws.EntriesVeiled
import Derived.Deep.AppendLies
import Derived.Deep.RegionLaw
import Derived.Outline
namespace Go.Proofs.Ytplbgfjemcpcpaa
open Go.RowKit Go.Conc
set_option linter.unusedVariables false
set_option linter.unusedSimpArgs false

def cB (x : Bool) : List Value := [(.bool x)]
theorem flatB (Q : List Bool) : ((Q.map cB).flatten).length = Q.length * 1 := by
  induction Q with
  | nil => rfl
  | cons x Q ih => rw [List.map_cons, List.flatten_cons, List.length_append, ih]; simp [cB, Nat.add_mul]; omega
theorem oneB (Q : List Bool) : ∀ u, u ∈ (Q.map cB).flatten → u.oneCell' = true := by
  intro u hu
  simp only [List.mem_flatten, List.mem_map] at hu
  obtain ⟨l, ⟨a, _, rfl⟩, hu⟩ := hu
  simp [cB] at hu
  first | (subst hu; rfl) | (rcases hu with rfl | rfl <;> rfl)
def vB (x : Bool) : Value := .bool x
theorem flatB_at (Q : List Bool) (i : Nat) : ((Q.map cB).flatten)[i]? = (Q[i]?).map vB := by
  induction Q generalizing i with
  | nil => rfl
  | cons x Q ih =>
    cases i with
    | zero => rfl
    | succ i => simpa [cB] using ih i
def ringB (w : World) (b : Nat) (F : List Nat) (most : Nat) (Q : List Bool) : Prop := ringIs w 84 4 1 b F most (Q.map cB)
theorem ringB.past {w w' : World} {b : Nat} {F L : List Nat} {most : Nat} {Q : List Bool} (h : ringB w b F most Q) (hg : turned w w' L) (hL : ∀ k, k ∈ F → k ∉ L) : ringB w' b F most Q := ringIs.past h hg hL
theorem ringB.drewN {w : World} {b : Nat} {F : List Nat} {most : Nat} {Q : List Bool} (h : ringB w b F most Q) (n : Nat) : ringB (w.drewN n) b F most Q := h
theorem infoB : (Try.prog.info? 4).map (fun i => (i.zero, i.size, i.bytes)) = some (some (.bool false), 1, 1) := by kernel_rfl
theorem bytesB : ∃ i, Try.prog.info? 79 = some i ∧ i.bytes = 0 := by
  have h : (Try.prog.info? 79).map (·.bytes) = some 0 := by kernel_rfl
  obtain ⟨i, hi, hb⟩ := Option.map_eq_some_iff.1 h
  exact ⟨i, hi, hb⟩
theorem mkB (w : World) (n : Int) (h : 0 ≤ n ∧ n ≤ 1048576) : (Instr.makeChan 76 (.int .i64 n)).run Try.prog w = .ok (.chan (some w.heap.size)) (w.alloc (.chan n.toNat #[] false 0 0 false)) := by
  obtain ⟨i, hi, hb⟩ := bytesB
  obtain ⟨m, rfl⟩ := Int.eq_ofNat_of_zero_le h.1
  simpa using run_makeChan (P := Try.prog) (w := w) Try.underlying76 hi .i64 m (by omega) (by rw [hb]; omega)

set_option maxRecDepth 100000 in
set_option maxHeartbeats 1000000 in
theorem rnewB (m : Int) (h : 1 ≤ m ∧ m ≤ 1048576) (w : World) :
    Calls Try.prog 20 #[.int .i64 m] w fun e w' => e = .returned (.tuple #[.pointer (some ⟨w.heap.size + 1, 0, none⟩), .int .i64 0]) ∧ ringB w' (w.heap.size + 1) [w.heap.size + 1, w.heap.size] m.toNat [] ∧ w.grownBy w' none := by
  obtain ⟨h1, h2⟩ := h
  have hmk := fun w => mkB w m (by omega)
  go_enter Try.func20, Try.ntmps20
  go_wp2
  go_ret2
  refine ⟨rfl, ⟨w.heap.size, .slice none 0 0, 0, [], ?_, ?_, World.ownsRow_nil _ _ _ _, rfl, by simp, rfl, by decide, by simp, by simp, by omega⟩, only_alloc (only_alloc (only_refl _ _) _) _⟩
  · have := obj.new (w.alloc (.chan m.toNat #[] false 0 0 false)) 84 [.chan (some w.heap.size), .slice none 0 0, .int .i64 0]
    simpa using this
  · exact ⟨#[], 0, 0, by rw [Below.heap_alloc _ _ _ (by simp)]; exact (MapKept.heap_alloc w _).1, rfl⟩
set_option maxHeartbeats 1000000 in
theorem rnewB_bad (m : Int) (h : m < 1 ∨ 1048576 < m) (w : World) :
    Calls Try.prog 20 #[.int .i64 m] w fun e w' => e = .returned (.tuple #[.pointer none, .int .i64 1]) ∧ w = w' := by
  rcases h with h | h
  · go_enter Try.func20, Try.ntmps20
    go_wp2
    go_ret2
    exact ⟨rfl, rfl⟩
  · go_enter Try.func20, Try.ntmps20
    go_wp2
    go_ret2
    exact ⟨rfl, rfl⟩

set_option maxHeartbeats 1000000 in
theorem rlenB (b : Nat) (F : List Nat) (most : Nat) (Q : List Bool) (w : World) (h : ringB w b F most Q) :
    Calls Try.prog 21 #[.pointer (some ⟨b, 0, none⟩)] w fun e w' => e = .returned (.int .i64 (Q.length : Int)) ∧ w = w' := by
  obtain ⟨c, sv, first, D, h1, ⟨buf, s, r, h2, hbuf⟩, h3⟩ := h
  clear h3
  have c0 := h1.cell 0 rfl
  have hlen := fun ty => run_len_chan (P := Try.prog) 76 ty Try.underlying76 h2
  simp only [hbuf, List.length_map] at hlen
  clear h1 h2 hbuf
  go_enter Try.func21, Try.ntmps21
  go_wp2
  go_ret
  exact ⟨rfl, rfl⟩
set_option maxHeartbeats 1000000 in
theorem rlenB_nil (w : World) :
    Calls Try.prog 21 #[.pointer none] w fun e w' => e = .returned (.int .i64 0) ∧ w = w' := by
  go_enter Try.func21, Try.ntmps21
  go_wp2
  go_ret
  exact ⟨rfl, rfl⟩

set_option maxHeartbeats 1000000 in
theorem rroomB (b : Nat) (F : List Nat) (most : Nat) (Q : List Bool) (w : World) (h : ringB w b F most Q) :
    Calls Try.prog 22 #[.pointer (some ⟨b, 0, none⟩)] w (Reads w (.int .i64 ((most : Int) - (Q.length : Int)))) := by
  obtain ⟨c, sv, first, D, h1, ⟨buf, s, r, h2, hbuf⟩, h3, h4, h5, h6, h7, h8, h9, h10⟩ := h
  rw [List.length_map] at h9
  have c0 := h1.cell 0 rfl
  have hlen := fun ty => run_len_chan (P := Try.prog) (w := w.drew) 76 ty Try.underlying76 h2
  have hcap := fun ty => run_cap_chan (P := Try.prog) (w := w.drew) 76 ty Try.underlying76 h2
  simp only [hbuf, List.length_map] at hlen
  clear h1 h2 h3 h4 h5 h6 h7 h8 hbuf
  go_enter Try.func22, Try.ntmps22
  go_wp2
  go_region
  go_wp2
  go_ret
  exact ⟨rfl, 1, rfl⟩
set_option maxHeartbeats 1000000 in
theorem rroomB_nil (w : World) :
    Calls Try.prog 22 #[.pointer none] w (Reads w (.int .i64 0)) := by
  go_enter Try.func22, Try.ntmps22
  go_wp2
  go_ret
  exact ⟨rfl, 0, rfl⟩

end Go.Proofs.Ytplbgfjemcpcpaa
