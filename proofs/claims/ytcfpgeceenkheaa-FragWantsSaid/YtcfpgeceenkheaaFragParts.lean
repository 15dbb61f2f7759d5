/- Parts of a row of pieces, pieces exchanged; what is not whole. Conditions: named. -/
import Derived.Test.YtcfpgeceenkheaaFragLarge
namespace Go.Proofs.Ytcfpgeceenkheaa
open Go.ChangeShapes Go.WideShapes Go.RowKit Go.Deep
set_option linter.unusedVariables false
set_option linter.unusedSimpArgs false

/-- A part of a row. -/
theorem liesF_sub {w : World} {g q gc : Nat} {X : List PD} {Bs : List (List Int)} (h : LiesF w (.slice (some ⟨g, 0, none⟩) q gc) X Bs) (s m c : Nat) (hs : s + m ≤ X.length) (hm : m ≤ c) (hc : c ≤ 9223372036854775807) : LiesF w (.slice (some ⟨g, s * 7, none⟩) m c) ((X.drop s).take m) ((Bs.drop s).take m) := by
  have hl : ((X.drop s).take m).length = m := by simp; omega
  have hlB : ((Bs.drop s).take m).length = m := by simp; rw [h.2.1]; omega
  refine ⟨⟨?_, fun x hx => h.1.2 x (List.mem_of_mem_drop (List.mem_of_mem_take hx))⟩, by rw [hl, hlB], fun i hi hi' => ?_⟩
  · rw [hl]
    refine ⟨by rw [flat_len cPD_len, hl], some ⟨g, s * 7, none⟩, c, rfl, hm, hc, fun h0 => ?_⟩
    obtain ⟨_, a', cap', e, _, _, hcell⟩ := h.1.1
    cases e
    obtain ⟨b, off, e, hb, hcl⟩ := hcell (by omega)
    cases e
    refine ⟨g, s * 7, rfl, hb, fun j u hu => ?_⟩
    rw [flat_take cPD_len, flat_drop cPD_len] at hu
    have hj : j < m * 7 := by
      have := (List.getElem?_eq_some_iff.1 hu).1
      rw [List.length_take] at this
      omega
    rw [List.getElem?_take, if_pos hj, List.getElem?_drop] at hu
    have := hcl _ u hu
    rwa [Nat.zero_add] at this
  · simp only [List.getElem_take, List.getElem_drop]
    exact h.2.2 (s + i) (by omega) (by rw [h.2.1]; omega)
/-- A piece stored whole. -/
theorem RowF.put {n₀ g cap n : Nat} {w : World} {X : List PD} {Bs : List (List Int)} (h : RowF n₀ w (.slice (some ⟨g, 0, none⟩) n cap) X Bs) (hn : n = X.length) (k : Nat) (hk : k < X.length) (x : PD) (hok : x.ok) (B : List Int) (hB : LiesB w (.slice x.ba x.bn x.bc) B) (hB2 : 0 < B.length → ∀ a, x.ba = some a → a.block ≠ g) :
    RowF n₀ (((((((w.setCell ⟨g, k * 7, none⟩ (.int .u32 x.t)).setCell ⟨g, k * 7 + 1, none⟩ (.int .u16 x.s)).setCell ⟨g, k * 7 + 2, none⟩ (.int .u16 x.n)).setCell ⟨g, k * 7 + 3, none⟩ (.bool x.u)).setCell ⟨g, k * 7 + 4, none⟩ (.bool x.f)).setCell ⟨g, k * 7 + 5, none⟩ (.bool x.l)).setCell ⟨g, k * 7 + 6, none⟩ (.slice x.ba x.bn x.bc)) (.slice (some ⟨g, 0, none⟩) n cap) (X.set k x) (Bs.set k B) := by
  have ok := h.2.1 _ (List.getElem_mem hk)
  have hn' : ∀ y : PD, n = (X.set k y).length := fun y => by rw [List.length_set]; exact hn
  have hk' : ∀ y : PD, k < (X.set k y).length := fun y => by rw [List.length_set]; exact hk
  have h1 := h.turn' hn k hk 0 (by omega) (.int .u32 x.t) { X[k]'hk with t := x.t } rfl ⟨hok.t0, hok.t1, ok.s0, ok.s1, ok.n0, ok.n1⟩ rfl rfl rfl
  have h2 := h1.turn' (hn' _) k (hk' _) 1 (by omega) (.int .u16 x.s) { X[k]'hk with t := x.t, s := x.s } (by rw [List.getElem_set_self]; rfl) ⟨hok.t0, hok.t1, hok.s0, hok.s1, ok.n0, ok.n1⟩ (by rw [List.getElem_set_self]) (by rw [List.getElem_set_self]) (by rw [List.getElem_set_self])
  rw [List.set_set] at h2
  have h3 := h2.turn' (hn' _) k (hk' _) 2 (by omega) (.int .u16 x.n) { X[k]'hk with t := x.t, s := x.s, n := x.n } (by rw [List.getElem_set_self]; rfl) ⟨hok.t0, hok.t1, hok.s0, hok.s1, hok.n0, hok.n1⟩ (by rw [List.getElem_set_self]) (by rw [List.getElem_set_self]) (by rw [List.getElem_set_self])
  rw [List.set_set] at h3
  have h4 := h3.turn' (hn' _) k (hk' _) 3 (by omega) (.bool x.u) { X[k]'hk with t := x.t, s := x.s, n := x.n, u := x.u } (by rw [List.getElem_set_self]; rfl) ⟨hok.t0, hok.t1, hok.s0, hok.s1, hok.n0, hok.n1⟩ (by rw [List.getElem_set_self]) (by rw [List.getElem_set_self]) (by rw [List.getElem_set_self])
  rw [List.set_set] at h4
  have h5 := h4.turn' (hn' _) k (hk' _) 4 (by omega) (.bool x.f) { X[k]'hk with t := x.t, s := x.s, n := x.n, u := x.u, f := x.f } (by rw [List.getElem_set_self]; rfl) ⟨hok.t0, hok.t1, hok.s0, hok.s1, hok.n0, hok.n1⟩ (by rw [List.getElem_set_self]) (by rw [List.getElem_set_self]) (by rw [List.getElem_set_self])
  rw [List.set_set] at h5
  have h6 := h5.turn' (hn' _) k (hk' _) 5 (by omega) (.bool x.l) { X[k]'hk with t := x.t, s := x.s, n := x.n, u := x.u, f := x.f, l := x.l } (by rw [List.getElem_set_self]; rfl) ⟨hok.t0, hok.t1, hok.s0, hok.s1, hok.n0, hok.n1⟩ (by rw [List.getElem_set_self]) (by rw [List.getElem_set_self]) (by rw [List.getElem_set_self])
  rw [List.set_set] at h6
  have h7 := h6.turn (hn' _) k (hk' _) 6 (by omega) (.slice x.ba x.bn x.bc) x (by rw [List.getElem_set_self]; rfl) hok B ((((((hB.set hB2 _).set hB2 _).set hB2 _).set hB2 _).set hB2 _).set hB2 _) hB2
  rw [List.set_set] at h7
  exact h7
theorem flatten_set_le {α : Type} (B : List α) : ∀ (L : List (List α)) (k : Nat), (L.set k B).flatten.length ≤ L.flatten.length + B.length
  | [], _ => by simp
  | x :: L, 0 => by simp; omega
  | x :: L, k + 1 => by simp only [List.set_cons_succ, List.flatten_cons, List.length_append]; have := flatten_set_le B L k; omega

/-! ## what is not whole -/
section
variable {s own : Int} {u : Bool} {X : List PD}
theorem not_whole_drop (h : shapedL s own u X) (m : Nat) (hm : 1 + m ≤ X.length) (h0 : 0 < m) : ¬ whole ((X.drop 1).take m) := by
  rintro ⟨g, hw⟩
  have := (hw 0 (by simp; omega)).f
  simp only [List.getElem_take, List.getElem_drop] at this
  have e := (shape_at h (1 + 0) (by omega) rfl).2.2.2.2.1
  rw [e] at this
  simp at this
theorem not_whole_take (h : shapedL s own u X) (m : Nat) (hm : m < X.length) (h0 : 0 < m) : ¬ whole ((X.drop 0).take m) := by
  rintro ⟨g, hw⟩
  have hl : ((X.drop 0).take m).length = m := by simp; omega
  have := (hw (m - 1) (by omega)).l
  have e2 : decide (m - 1 + 1 = ((X.drop 0).take m).length) = true := decide_eq_true (by omega)
  rw [e2] at this
  simp only [List.getElem_take, List.getElem_drop] at this
  have e := (shape_at h (0 + (m - 1)) (by omega) rfl).2.2.2.2.2
  rw [e] at this
  have := beq_iff_eq.1 this
  omega
theorem not_whole_swap (h : shapedL s own u X) (r : Nat) (hr : r + 1 = X.length) (h1 : 1 ≤ r) (x0 xr : PD) (e0 : X[0]'(by omega) = x0) (er : X[r]'(by omega) = xr) : ¬ whole ((X.set 0 xr).set r x0) := by
  rintro ⟨g, hw⟩
  have := (hw 0 g).f
  rw [List.getElem_set_ne (by omega), List.getElem_set_self] at this
  have e := (shape_at h r (by omega) er).2.2.2.2.1
  rw [e] at this
  simp at this
  omega
/-- One piece is of another kind than the others. -/
theorem not_whole_one (h : shapedL s own u X) (h2 : 2 ≤ X.length) (k : Nat) (hk : k < X.length) (x : PD) (hx : x.s ≠ s ∨ x.n ≠ own ∨ x.u ≠ u) : ¬ whole (X.set k x) := by
  rintro ⟨g, hw⟩
  have key : ∀ i (hi : i < X.length), i ≠ k → ((X.set k x)[i]'(by simpa using hi)).s = s ∧ ((X.set k x)[i]'(by simpa using hi)).n = own ∧ ((X.set k x)[i]'(by simpa using hi)).u = u := fun i hi e => by
    rw [List.getElem_set_ne (Ne.symm e)]
    have q := shape_at h i hi rfl
    exact ⟨q.2.1, q.2.2.1, q.2.2.2.1⟩
  have hself : (X.set k x)[k]'(by simpa using hk) = x := List.getElem_set_self _
  rcases Nat.eq_zero_or_pos k with rfl | h0
  · have q := hw 1 (by rw [List.length_set]; omega)
    have z := key 1 (by omega) (by omega)
    rcases hx with hx | hx | hx
    · exact hx (by have := q.s; rw [z.1, hself] at this; exact this.symm)
    · exact hx (by have := q.n; rw [z.2.1, hself] at this; exact this.symm)
    · exact hx (by have := q.u; rw [z.2.2, hself] at this; exact this.symm)
  · have q := hw k (by simpa using hk)
    have z := key 0 (by omega) (by omega)
    rcases hx with hx | hx | hx
    · exact hx (by have := q.s; rw [z.1, hself] at this; exact this)
    · exact hx (by have := q.n; rw [z.2.1, hself] at this; exact this)
    · exact hx (by have := q.u; rw [z.2.2, hself] at this; exact this)
end
end Go.Proofs.Ytcfpgeceenkheaa
