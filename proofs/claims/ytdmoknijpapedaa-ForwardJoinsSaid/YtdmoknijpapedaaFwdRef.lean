/- What the document tells of a row of pieces. Conditions: the pieces lie in memory; at most 1000. -/
import Derived.Test.YtdmoknijpapedaaFwdMake3
import Derived.Deep.AppendLies
import Derived.Deep.RegionLaw
namespace Go.Proofs.Ytdmoknijpapedaa
open Go.RowKit Go.Maps Go.Deep
set_option linter.unusedVariables false
set_option linter.unusedSimpArgs false

theorem row_test {cum : Int} {X : List PD} {j : Nat} (hj : j < X.length) (hX : X.length ≤ 1000) (hok : ∀ x, x ∈ X → x.ok) (hc : 0 ≤ cum ∧ cum < 4294967296) :
    ((X[j]'hj).t != ((cum + 1) % 4294967296 + (j : Int)) % 4294967296) = true ↔ ¬ (X[j]'hj).t = (cum + 1 + (j : Int)) % 4294967296 := by
  have h := hok _ (List.getElem_mem hj)
  have h1 := h.t0
  have h2 := h.t1
  simp only [bne_iff_ne, ne_eq]
  omega

set_option maxRecDepth 100000 in
set_option maxHeartbeats 4000000 in
theorem rmake_no (cum : Int) (v : Value) (X : List PD) (w : World) (hc : 0 ≤ cum ∧ cum < 4294967296) (h : LiesD w v X) (hX : X.length ≤ 1000) (hr : ¬ isRow cum X) :
    Calls Try.prog 10 #[.int .u32 cum, v] w fun e w' => e = .returned noRow ∧ turned w w' [] := by
  obtain ⟨a, cap, rfl, hc1, hc2⟩ := h.1.form
  have H := Lib.hid h
  have HR := Lib.hid hr
  have HC := Lib.hid hc
  have hc0 := hc.1
  have hcm := hc.2
  clear h hr hc
  unfold noRow
  by_cases hX0 : X.length = 0
  · rw [hX0]
    go_enter Try.func10, Try.ntmps10
    go_wp2
    refine bodyPost_ret (v := .tuple #[.agg #[.int .u32 0, .slice none 0 0], .bool false]) (by simp [results, Try.results10, go_sem, *]) rfl ⟨rfl, ?_⟩
    repeat (first | exact turned_refl _ _ | apply turned_alloc)
  · have hb0 : ((X.length : Int) == 0) = false := beq_eq_false_iff_ne.2 (by omega)
    have hpos : 0 < X.length := by omega
    obtain ⟨w2, hw2⟩ : ∃ w2, w2 = (w.alloc (.cells #[.int .u32 0, .slice none 0 0] 27)).alloc (.cells #[.int .u32 0, .slice none 0 0] 27) := ⟨_, rfl⟩
    have t2 : turned w w2 [] := by rw [hw2]; exact turned_alloc (turned_alloc (turned_refl w []) _) _
    have o1 : obj w2 w.heap.size 27 [.int .u32 0, .slice none 0 0] := by rw [hw2]; exact (obj.new w _ _).alloc _
    have o2 : obj w2 (w.heap.size + 1) 27 [.int .u32 0, .slice none 0 0] := by rw [hw2]; have := obj.new (w.alloc (.cells #[.int .u32 0, .slice none 0 0] 27)) 27 [.int .u32 0, .slice none 0 0]; simpa using this
    have r0 := o1.cell 0 rfl
    have r1 := o1.cell 1 rfl
    have f0 := o1.free 0
    have f1 := o1.free 1
    have s0 := o2.cell 0 rfl
    have s1 := o2.cell 1 rfl
    have T2 := Lib.hid t2
    clear t2 o1 o2
    go_enter Try.func10, Try.ntmps10
    go_wp2
    rw [← hw2]
    clear hw2
    go_loop [7] (fun i => ∃ j : Nat, j ≤ X.length ∧ i = .int .i64 (j : Int) ∧ ∀ t (ht : t < X.length), t < j → (X[t]'ht).t = (cum + 1 + (t : Int)) % 4294967296) (fun i => X.length - (intOf i).toNat)
    case atStart => exact ⟨0, Nat.zero_le _, rfl, fun t ht h => absurd h (Nat.not_lt_zero t)⟩
    case round =>
      obtain ⟨j, hj, rfl, hall⟩ := hrel
      have HALL := Lib.hid hall
      clear hall
      have hlt : j < X.length := by
        rcases Nat.lt_or_ge j X.length with h | h
        · exact h
        · exact absurd ⟨by intro e; subst e; simp at hpos, fun t ht => HALL.out t ht (by omega)⟩ HR.out
      obtain ⟨b, off, rfl, hb, c0, c1, c2, c3, c4, c5, c6⟩ := (H.out.none_ T2.out).cells j hlt
      have hq := row_test hlt hX H.out.2 HC.out
      obtain ⟨x, hx⟩ : ∃ x, X[j]'hlt = x := ⟨_, rfl⟩
      rw [hx] at c0 c1 c2 c3 c4 c5 c6 hq
      have HXJ := Lib.hid hx
      clear hx c1 c2 c3 c4 c5 c6
      by_cases hk : x.t = (cum + 1 + (j : Int)) % 4294967296
      · have hb1 : (x.t != ((cum + 1) % 4294967296 + (j : Int)) % 4294967296) = false := by
          cases hh : (x.t != ((cum + 1) % 4294967296 + (j : Int)) % 4294967296) with
          | false => rfl
          | true => exact absurd hk (hq.1 hh)
        clear hq
        have HK := Lib.hid hk
        clear hk
        go_wp2
        go_round
        case rel =>
          refine ⟨j + 1, by omega, by go_num, fun t ht h => ?_⟩
          by_cases e : t = j
          · subst e; rw [HXJ.out]; exact HK.out
          · exact HALL.out t ht (by omega)
        case measure => simp only [intOf]; omega
      · have hb1 := hq.2 hk
        clear hq hk
        go_wp2
        refine bodyPost_ret (v := .tuple #[.agg #[.int .u32 0, .slice none 0 0], .bool false]) (by simp [results, Try.results10, go_sem, *]) rfl ⟨rfl, ?_⟩
        exact turned_setNew (turned_setNew T2.out (Nat.le_refl _) _) (Nat.le_refl _) _
end Go.Proofs.Ytdmoknijpapedaa
