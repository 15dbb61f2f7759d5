/- A queue of the call's own; its state stays in bounds. No condition. -/
import Derived.Test.YtibnjakiagcopaaOutqSame
namespace Go.Proofs.Ytibnjakiagcopaa
open Go.RowKit Go.Deep
set_option linter.unusedVariables false
set_option linter.unusedSimpArgs false

theorem QS.num_in {S : QS} {n : Nat} (h : S.ok n) {x : IT} (hx : x.ok S.ssn.length) : 0 ≤ S.num x ∧ S.num x < 65536 := by
  unfold QS.num
  split
  · have h0 := hx.s0
    have h1 := hx.s1
    have hlt : x.s.toNat < S.ssn.length := by omega
    have e : S.ssn.getD x.s.toNat 0 = S.ssn[x.s.toNat] := by simp [hlt]
    rw [e]
    exact h.ks _ (List.getElem_mem hlt)
  · exact ⟨hx.n0, hx.n1⟩
theorem QS.ssn'_len (S : QS) (x : IT) : (S.ssn' x).length = S.ssn.length := by
  unfold QS.ssn'
  split
  · rw [List.length_set]
  · rfl
theorem QS.next_ok {S : QS} {n : Nat} (h : S.ok n) {x : IT} {L : List IT} (hl : S.L = x :: L) (k : Nat) (hk : k ≤ x.left) : (S.next x L k).ok n := by
  have hx := h.it x (by rw [hl]; simp)
  have hnum := QS.num_in h hx
  have hll : L.length + 1 ≤ n := by have := h.l; rw [hl] at this; simpa using this
  have e := QS.ssn'_len S x
  refine ⟨?_, h.m0, h.m1, h.r0, h.r1, h.u0, h.u1, ?_, ?_, ?_, ?_⟩
  · show (if x.at_ + k = x.B.length then L else { x with at_ := x.at_ + k, ssn := S.num x } :: L).length ≤ n
    split
    · omega
    · simp; omega
  · show 1 ≤ (S.ssn' x).length
    rw [e]; exact h.k0
  · show (S.ssn' x).length ≤ 16
    rw [e]; exact h.k1
  · show ∀ y, y ∈ S.ssn' x → 0 ≤ y ∧ y < 65536
    intro y hy
    unfold QS.ssn' at hy
    split at hy
    · rcases List.mem_or_eq_of_mem_set hy with hy | rfl
      · exact h.ks y hy
      · omega
    · exact h.ks y hy
  · show ∀ y, y ∈ (if x.at_ + k = x.B.length then L else { x with at_ := x.at_ + k, ssn := S.num x } :: L) → y.ok (S.ssn' x).length
    rw [e]
    intro y hy
    have hL : ∀ z, z ∈ L → z.ok S.ssn.length := fun z hz => h.it z (by rw [hl]; simp [hz])
    split at hy
    · exact hL y hy
    · rcases List.mem_cons.1 hy with rfl | hy
      · have h1 := hx.a1
        have hlf : x.left = x.B.length - x.at_ := rfl
        exact ⟨hx.s0, hx.s1, hx.b0, hx.b1, by show x.at_ + k < x.B.length; omega, hx.i0, hx.i1, hx.u0, hx.u1, hnum.1, hnum.2, hx.by_⟩
      · exact hL y hy
theorem freed_in (u n : Int) (h : 0 ≤ u) : 0 ≤ freed u n ∧ freed u n ≤ u := by unfold freed; omega
theorem QS.free_ok {S : QS} {n : Nat} (h : S.ok n) (k : Int) : ({ S with used := freed S.used k } : QS).ok n := by
  have hf := freed_in S.used k h.u0
  have hu := h.u1
  exact ⟨h.l, h.m0, h.m1, h.r0, h.r1, hf.1, by show freed S.used k ≤ S.room; omega, h.k0, h.k1, h.ks, h.it⟩
theorem QS.expire_ok {S : QS} {n : Nat} (h : S.ok n) (now : Int) : (S.expire now).ok n := by
  have hf := freed_in S.used (XS.zero.run now S.L).gone h.u0
  have hu := h.u1
  exact ⟨Nat.le_trans (List.length_filter_le _ _) h.l, h.m0, h.m1, h.r0, h.r1, hf.1, by show freed S.used _ ≤ S.room; omega, h.k0, h.k1, h.ks, fun x hx => h.it x (List.mem_filter.1 hx).1⟩
theorem QS.ok.more {S : QS} {n m : Nat} (h : S.ok n) (hn : n ≤ m) : S.ok m :=
  ⟨Nat.le_trans h.l hn, h.m0, by have := h.m1; omega, h.r0, h.r1, h.u0, h.u1, h.k0, h.k1, h.ks, h.it⟩
/-- A queue of the call's own: its blocks are new since w0. -/
def Own (w0 w : World) (g : Nat) (F : List Nat) (S : QS) : Prop := outIs w g F S ∧ (∀ k, k ∈ F → w0.heap.size ≤ k) ∧ turned w0 w []
theorem Own.past {w0 w w' : World} {g : Nat} {F : List Nat} {S : QS} (h : Own w0 w g F S) (t : turned w w' []) : Own w0 w' g F S := ⟨h.1.past t (by simp), h.2.1, turned_trans h.2.2 t⟩
theorem Own.apart {w0 w w' : World} {g : Nat} {F L : List Nat} {S : QS} (h : Own w0 w g F S) (t : turned w w' L) (hL : ∀ k, k ∈ L → w0.heap.size ≤ k ∧ k ∉ F) : Own w0 w' g F S :=
  ⟨h.1.past t (fun k hk e => (hL k e).2 hk), h.2.1, turned_narrow (turned_trans (turned_more h.2.2 (by simp)) t) (fun k hk => .inr (hL k hk).1)⟩
theorem Own.grew {w0 w w' : World} {g : Nat} {F F' : List Nat} {S S' : QS} (h : Own w0 w g F S) (h' : outIs w' g F' S') (hg : grewFoot w F F') (t : turned w w' F) : Own w0 w' g F' S' :=
  ⟨h', fun k hk => by rcases hg k hk with e | e; exact h.2.1 k e; exact Nat.le_trans h.2.2.2.2.2.1 e, turned_narrow (turned_trans (turned_more h.2.2 (by simp)) t) (fun k hk => .inr (h.2.1 k hk))⟩
theorem Own.sub {w0 w w' : World} {g : Nat} {F F' : List Nat} {S S' : QS} (h : Own w0 w g F S) (h' : outIs w' g F' S') (hs : ∀ q, q ∈ F' → q ∈ F) (t : turned w w' F) : Own w0 w' g F' S' :=
  h.grew h' (fun k hk => .inl (hs k hk)) t
/-- A literal's bytes. -/
theorem lit_lies (w : World) (B : List Int) (fr : Nat × Nat) (hB : bytes B) (hl : B.length ≤ 1000000) : LiesB (w.alloc (.cells (flat cB B).toArray 5 fr)) (.slice (some ⟨w.heap.size, 0, none⟩) B.length B.length) B :=
  ⟨⟨by rw [flat_len cB_len], some ⟨w.heap.size, 0, none⟩, B.length, rfl, Nat.le_refl _, by omega, fun _ => ⟨w.heap.size, 0, rfl, by simp, fun j u hu => by
    rw [Nat.zero_add, cell_of_row _ w.heap.size j _ _ fr (heap_alloc_new w _)]
    simpa using hu⟩⟩, hB⟩
/-- A block of another type is none of a queue's. -/
theorem outIs.ne {w : World} {b D : Nat} {F : List Nat} {S : QS} {t : TypeId} {cs : List Value} (h : outIs w b F S) (o : obj w D t cs) (h1 : 65 ≠ t) (h2 : 67 ≠ t) (h3 : 22 ≠ t) (h4 : 69 ≠ t) (h5 : 5 ≠ t) : D ∉ F := by
  obtain ⟨v, sv, Z, rfl, k1, k2, k3, k4, k5, k6⟩ := h
  intro hD
  simp only [foot, List.mem_cons, List.mem_append, Option.mem_toList] at hD
  rcases hD with e | e | e | e
  · exact k1.ne o h1 e.symm
  · exact k2.ne o h2 e
  · exact row_ne k3 o h3 e
  · obtain ⟨z, hz, e | e⟩ := mem_zfoot.1 e
    · exact (k5 z hz).1.ne o h4 e.symm
    · exact row_ne (k5 z hz).2 o h5 e
theorem outIs.data {w w' : World} {b D : Nat} {F : List Nat} {S : QS} {cs : List Value} (h : outIs w b F S) (o : obj w D 34 cs) (t : turned w w' F) : obj w' D 34 cs :=
  o.past t (h.ne o (by decide) (by decide) (by decide) (by decide) (by decide))
theorem osame_yes (a : DD) (va vb : Value) (w : World) (ha : LiesB w va a.B) (hb : LiesB w vb a.B) :
    Calls Try.prog 13 #[.agg #[.int .u32 a.t, .int .u16 a.s, .int .u16 a.n, .bool a.u, .bool a.f, .bool a.l, va], .agg #[.int .u32 a.t, .int .u16 a.s, .int .u16 a.n, .bool a.u, .bool a.f, .bool a.l, vb]] w fun e w' => e = .returned (.bool true) ∧ turned w w' [] := by
  refine (osame a a va vb w ha hb).mono ?_
  rintro e w' ⟨rfl, t⟩
  exact ⟨by simp, t⟩
theorem oused_own (g : Nat) (F : List Nat) (S : QS) (w0 w : World) (h : Own w0 w g F S) (u : Int) (hu : S.used = u) :
    Calls Try.prog 14 #[.pointer (some ⟨g, 0, none⟩)] w fun e w' => e = .returned (.int .i64 u) ∧ w = w' := by
  subst hu
  exact oused g F S w h.1
end Go.Proofs.Ytibnjakiagcopaa
