/- New pieces in memory, each with bytes of its own. No condition. -/
import Derived.Test.YtcfpgeceenkheaaFragChunk
import Derived.Test.YtcfpgeceenkheaaFragFull
import Derived.Test.YtcfpgeceenkheaaRound
namespace Go.Proofs.Ytcfpgeceenkheaa
open Go.RowKit Go.Shelf
set_option linter.unusedVariables false
set_option linter.unusedSimpArgs false

/-- The bytes of piece k. -/
def bit (B : List Int) (most k : Nat) : List Int := (B.drop (k * most)).take most
theorem bit_len (B : List Int) (most k : Nat) : (bit B most k).length = pieceLen B.length most k := by simp [bit, pieceLen]
theorem flatB_at (B : List Int) (i : Nat) (h : i < B.length) : (flat cB B)[i]? = some (.int .u8 (B[i]'h)) := by
  have e := flat_at cB_len B i h 0 (by omega)
  rw [Nat.mul_one, Nat.add_zero] at e
  exact e
theorem flatB_len (B : List Int) : (flat cB B).length = B.length := by rw [flat_len cB_len, Nat.mul_one]
theorem liesB_sub {w : World} {a : Option Addr} {n cap : Nat} {B : List Int} (h : LiesB w (.slice a n cap) B) (s m c : Nat) (hs : s + m ≤ B.length) (hmc : m ≤ c) (hc : c ≤ 9223372036854775807) (ad : Option Addr)
    (had : ∀ b off, a = some ⟨b, off, none⟩ → ad = some ⟨b, off + s, none⟩) : LiesB w (.slice ad m c) ((B.drop s).take m) := by
  have hl : ((B.drop s).take m).length = m := by simp; omega
  refine ⟨?_, fun x hx => h.2 x (List.mem_of_mem_drop (List.mem_of_mem_take hx))⟩
  rw [hl]
  refine ⟨by rw [flatB_len, hl, Nat.mul_one], ad, c, rfl, hmc, hc, fun h0 => ?_⟩
  obtain ⟨b, off, e, hb, _⟩ := h.cell s (by omega)
  refine ⟨b, off + s, had b off e, hb, fun j u hu => ?_⟩
  have hj : j < m := by
    rcases Nat.lt_or_ge j m with g | g
    · exact g
    · rw [List.getElem?_eq_none (by rw [flatB_len, hl]; exact g)] at hu; cases hu
  rw [flatB_at _ j (by rw [hl]; exact hj)] at hu
  cases hu
  obtain ⟨b', off', e', _, hcell⟩ := h.cell (s + j) (by omega)
  rw [e] at e'
  cases e'
  rw [show off + s + j = off + (s + j) by omega, hcell]
  simp [List.getElem_take, List.getElem_drop]
theorem bit_lies {w : World} {b off cap most k : Nat} {B : List Int} (h : LiesB w (.slice (some ⟨b, off, none⟩) B.length cap) B) (hB : B.length ≤ 4000000) : LiesB w (pieceV b off B.length most k) (bit B most k) := by
  unfold pieceV
  have hp : pieceLen B.length most k = min most (B.length - k * most) := rfl
  rcases Nat.lt_or_ge (k * most) B.length with g | g
  · have := liesB_sub h (k * most) (pieceLen B.length most k) (pieceLen B.length most k) (by omega) (Nat.le_refl _) (by omega) (some ⟨b, off + k * most, none⟩) (fun b' off' e => by cases e; rfl)
    have e : bit B most k = (B.drop (k * most)).take (pieceLen B.length most k) := by
      unfold bit
      rw [hp]
      rcases Nat.le_total most (B.length - k * most) with g' | g'
      · rw [Nat.min_eq_left g']
      · rw [Nat.min_eq_right g', List.take_of_length_le (by simp; omega), List.take_of_length_le (by simp)]
    rw [e]
    exact this
  · have e : bit B most k = [] := by unfold bit; rw [List.drop_eq_nil_of_le g, List.take_nil]
    have e2 : pieceLen B.length most k = 0 := by omega
    rw [e, e2]
    exact ⟨⟨rfl, _, _, rfl, Nat.le_refl _, by omega, fun h0 => by simp at h0⟩, fun x hx => by cases hx⟩

/-! ## pieces of one maker -/
def apartD (X : List PD) : Prop := ∀ i j (hi : i < X.length) (hj : j < X.length), i ≠ j → ∀ a b, (X[i]'hi).ba = some a → (X[j]'hj).ba = some b → a.block ≠ b.block
def rowB (w : World) (n₀ : Nat) (x : PD) (B : List Int) : Prop := w.ownsRow n₀ 5 1 (.slice x.ba x.bn x.bc) B.length (flat cB B) ∧ full w x.ba x.bc
theorem rowB.past {w w' : World} {n₀ : Nat} {x : PD} {B : List Int} {L : List Nat} (h : rowB w n₀ x B) (t : turned w w' L) (hL : ∀ g, (Value.slice x.ba x.bn x.bc).ownBlock = some g → g ∉ L) : rowB w' n₀ x B :=
  ⟨row_past h.1 t hL, h.2.past t (fun p e => hL p.block (by rw [e]; rfl))⟩
theorem rowB.kept {w w' : World} {n₀ : Nat} {x : PD} {B : List Int} {row : Option Nat} (h : rowB w n₀ x B) (g : w.grownBy w' row) (hr : (Value.slice x.ba x.bn x.bc).ownBlock = none ∨ (Value.slice x.ba x.bn x.bc).ownBlock ≠ row) : rowB w' n₀ x B :=
  ⟨h.1.kept g hr, h.2.kept g (fun p e => by
    rcases hr with q | q
    · rw [e] at q; cases q
    · intro e2; exact q (by rw [e]; exact e2))⟩
def Made (n₀ : Nat) (w : World) (v : Value) (X : List PD) (Bs : List (List Int)) : Prop :=
  w.ownsRow n₀ 38 7 v X.length (flat cPD X) ∧ Bs.length = X.length ∧ (∀ i (h : i < X.length) (h' : i < Bs.length), rowB w n₀ (X[i]'h) (Bs[i]'h')) ∧ apartD X
theorem Made.nil (n₀ : Nat) (w : World) : Made n₀ w (.slice none 0 0) [] [] := ⟨World.ownsRow_nil _ _ _ _, rfl, fun i h => (by cases h), fun i j hi => (by cases hi)⟩
theorem row_cells {w w' : World} {base : Nat} {e : TypeId} {sz n : Nat} {v : Value} {xs : List Value} {row : Option Nat} (h : w.ownsRow base e sz v n xs) (hg : w.grownBy w' row) (hr : ∀ r, row = some r → ∃ o : Obj, w.heap[r]? = some o ∧ o.isCells = false) : w'.ownsRow base e sz v n xs := by
  refine h.kept hg ?_
  rcases h.2 with ⟨rfl, _⟩ | ⟨g, cap, cur, rfl, _, hgb, _⟩
  · exact .inl rfl
  · refine .inr fun e' => ?_
    obtain ⟨o, ho, hc⟩ := hr g (by simpa [Value.ownBlock] using e'.symm)
    rw [hgb] at ho; cases ho; cases hc
theorem rowB.cells {w w' : World} {n₀ : Nat} {x : PD} {B : List Int} {row : Option Nat} (h : rowB w n₀ x B) (hg : w.grownBy w' row) (hr : ∀ r, row = some r → ∃ o : Obj, w.heap[r]? = some o ∧ o.isCells = false) : rowB w' n₀ x B :=
  ⟨row_cells h.1 hg hr, h.2.kept hg (fun p e e2 => by
    obtain ⟨G, h1, _⟩ := h.2 p e
    obtain ⟨o, ho, hc⟩ := hr p.block e2.symm
    unfold obj at h1
    rw [h1] at ho; cases ho; cases hc)⟩
theorem Made.cells {n₀ : Nat} {w w' : World} {v : Value} {X : List PD} {Bs : List (List Int)} {row : Option Nat} (h : Made n₀ w v X Bs) (hg : w.grownBy w' row) (hr : ∀ r, row = some r → ∃ o : Obj, w.heap[r]? = some o ∧ o.isCells = false) : Made n₀ w' v X Bs :=
  ⟨row_cells h.1 hg hr, h.2.1, fun i a b => (h.2.2.1 i a b).cells hg hr, h.2.2.2⟩
theorem Made.none_ {n₀ : Nat} {w w' : World} {v : Value} {X : List PD} {Bs : List (List Int)} (h : Made n₀ w v X Bs) (t : turned w w' []) : Made n₀ w' v X Bs :=
  ⟨row_past h.1 t (by simp), h.2.1, fun i a b => (h.2.2.1 i a b).past t (by simp), h.2.2.2⟩
theorem rows_ne {w : World} {b1 b2 : Nat} {e t : TypeId} {s1 s2 n m : Nat} {v u : Value} {xs ys : List Value} (h : w.ownsRow b1 e s1 v n xs) (k : w.ownsRow b2 t s2 u m ys) (hne : e ≠ t) : ∀ g, v.ownBlock = some g → u.ownBlock ≠ some g := by
  rintro g hg hg'
  rcases h.2 with ⟨rfl, _⟩ | ⟨g1, cap, cur, rfl, _, hgb, _⟩
  · simp [Value.ownBlock] at hg
  · rcases k.2 with ⟨rfl, _⟩ | ⟨g2, cap2, cur2, rfl, _, hgb2, _⟩
    · simp [Value.ownBlock] at hg'
    · simp [Value.ownBlock] at hg hg'
      subst hg
      subst hg'
      rw [hgb] at hgb2
      simp at hgb2
      exact hne hgb2.2
theorem row_lt {w : World} {base : Nat} {e : TypeId} {sz n : Nat} {v : Value} {xs : List Value} (h : w.ownsRow base e sz v n xs) : ∀ g, v.ownBlock = some g → base ≤ g ∧ g < w.heap.size := by
  rintro g hg
  rcases h.2 with ⟨rfl, _⟩ | ⟨g1, cap, cur, rfl, hb, hgb, _⟩
  · simp [Value.ownBlock] at hg
  · simp [Value.ownBlock] at hg
    subst hg
    exact ⟨hb, (Array.getElem?_eq_some_iff.1 hgb).1⟩
theorem row_base {w : World} {base b2 : Nat} {e : TypeId} {sz n : Nat} {v : Value} {xs : List Value} (h : w.ownsRow base e sz v n xs) (hb : b2 ≤ base) : w.ownsRow b2 e sz v n xs := by
  refine ⟨h.1, ?_⟩
  rcases h.2 with k | ⟨g1, cap, cur, rfl, hg, r⟩
  · exact .inl k
  · exact .inr ⟨g1, cap, cur, rfl, by omega, r⟩
theorem rowB.base {w : World} {n₀ m : Nat} {x : PD} {B : List Int} (h : rowB w n₀ x B) (hm : m ≤ n₀) : rowB w m x B := ⟨row_base h.1 hm, h.2⟩
/-- A piece more: its bytes are new (in block W.heap.size or later); then the row has grown; then the row's variable (block c) is written. -/
theorem Made.snoc {n₀ c : Nat} {W w1 w2 w3 : World} {v v' : Value} {X : List PD} {Bs : List (List Int)} {x : PD} {B : List Int} {cs : List Value} {t : TypeId}
    (h : Made n₀ W v X Bs) (hn : n₀ ≤ W.heap.size) (t1 : turned W w1 []) (hx : rowB w1 W.heap.size x B) (t2 : turned w1 w2 []) (g : w2.grownBy w3 v.ownBlock) (hv : w3.ownsRow n₀ 38 7 v' (X.length + 1) (flat cPD (X ++ [x])))
    (hc : obj w3 c t cs) (ht1 : t ≠ 38) (ht2 : t ≠ 5) (u : Value) : Made n₀ (w3.setCell ⟨c, 0, none⟩ u) v' (X ++ [x]) (Bs ++ [B]) := by
  have h2 : Made n₀ w2 v X Bs := (h.none_ t1).none_ t2
  have hx2 : rowB w2 W.heap.size x B := hx.past t2 (by simp)
  have kB : ∀ (y : PD) (C : List Int) (m : Nat), rowB w2 m y C → rowB (w3.setCell ⟨c, 0, none⟩ u) m y C := fun y C m hy => by
    have h3 : rowB w3 m y C := hy.kept g (by
      rcases hy.1.2 with ⟨e, _⟩ | ⟨g1, cap, cur, e, _, hgb, _⟩
      · exact .inl (by rw [e]; rfl)
      · refine .inr fun e' => ?_
        rw [e] at e'
        exact rows_ne hy.1 h2.1 (by decide) g1 (by rw [e]; rfl) e'.symm)
    exact h3.kept (grownBy_setCell' w3 c u) (.inr fun e' => row_ne h3.1 hc (Ne.symm ht2) (by rw [e']))
  refine ⟨by rw [List.length_append]; exact hv.kept (grownBy_setCell' w3 c u) (.inr fun e' => row_ne hv hc (Ne.symm ht1) (by rw [e'])), by simp [h.2.1], fun i hi hi' => ?_, fun i j hi hj hij a b ea eb => ?_⟩
  · rcases Nat.lt_or_ge i X.length with g1 | g1
    · rw [List.getElem_append_left g1, List.getElem_append_left (by rw [h.2.1]; exact g1)]
      exact kB _ _ _ (h2.2.2.1 i g1 (by rw [h.2.1]; exact g1))
    · obtain rfl : i = X.length := by simp at hi; omega
      rw [List.getElem_append_right (Nat.le_refl _), List.getElem_append_right (by rw [h.2.1]; exact Nat.le_refl _)]
      simp only [Nat.sub_self, List.getElem_singleton]
      exact (kB _ _ _ hx2).base hn
  · have far : ∀ k (hk : k < X.length) p q, (X[k]'hk).ba = some p → x.ba = some q → p.block ≠ q.block := fun k hk p q ep eq' => by
      have l1 := (row_lt (h.2.2.1 k hk (by rw [h.2.1]; exact hk)).1 p.block (by rw [ep]; rfl)).2
      have l2 := (row_lt hx.1 q.block (by rw [eq']; rfl)).1
      omega
    rcases Nat.lt_or_ge i X.length with g1 | g1
    · rw [List.getElem_append_left g1] at ea
      rcases Nat.lt_or_ge j X.length with g2 | g2
      · rw [List.getElem_append_left g2] at eb
        exact h.2.2.2 i j g1 g2 hij a b ea eb
      · rw [List.getElem_append_right g2] at eb
        simp at eb
        exact far i g1 a b ea eb
    · rw [List.getElem_append_right g1] at ea
      simp at ea
      rcases Nat.lt_or_ge j X.length with g2 | g2
      · rw [List.getElem_append_left g2] at eb
        exact (far j g2 b a eb ea).symm
      · simp at hi hj; omega
/-- Pieces as they are made: all that is said of them but their bytes. -/
def shaped (s own : Int) (u : Bool) (X : List PD) : Prop := ∀ i (h : i < X.length), X[i]'h = ⟨0, s, own, u, decide (i = 0), false, (X[i]'h).ba, (X[i]'h).bn, (X[i]'h).bc⟩
theorem shaped.snoc {s own : Int} {u : Bool} {X : List PD} (h : shaped s own u X) (a : Option Addr) (n c : Nat) : shaped s own u (X ++ [⟨0, s, own, u, decide (X.length = 0), false, a, n, c⟩]) := by
  intro i hi
  rcases Nat.lt_or_ge i X.length with g | g
  · rw [List.getElem_append_left g]; exact h i g
  · obtain rfl : i = X.length := by simp at hi; omega
    rw [List.getElem_append_right (Nat.le_refl _)]
    simp
/-- What the drawn region of a round reads. -/
def CutS (w : World) (s own : Int) (o : Bool) (v rv : Value) (W : World) : Prop :=
  W.cell? ⟨w.heap.size, 0, none⟩ = some (.int .u16 s) ∧ W.cell? ⟨w.heap.size, 1, none⟩ = some (.bool o) ∧ W.cell? ⟨w.heap.size + 1, 0, none⟩ = some (.int .u16 own) ∧ W.cell? ⟨w.heap.size + 1 + 1, 0, none⟩ = some rv ∧ W.frozen? ⟨w.heap.size + 1 + 1, 0, none⟩ = false
/-- What a round of the loop finds. -/
def CutI (w : World) (n₀ : Nat) (B : List Int) (most : Nat) (s own : Int) (o : Bool) (v : Value) (pre : List Nat) (W : World) : Prop :=
  (∃ rv X, Made n₀ W rv X (pre.map (bit B most)) ∧ shaped s own (!o) X ∧ X.length = pre.length ∧ obj W (w.heap.size + 1 + 1) 29 [rv]) ∧
  obj W w.heap.size 25 [.int .u16 s, .bool o, v] ∧ obj W (w.heap.size + 1) 22 [.int .u16 own] ∧ turned w W [] ∧ n₀ ≤ W.heap.size
theorem obj.cellsOnly {w w' : World} {b : Nat} {t : TypeId} {cs : List Value} {row : Option Nat} (h : obj w b t cs) (hg : w.grownBy w' row) (hr : ∀ r, row = some r → ∃ o : Obj, w.heap[r]? = some o ∧ o.isCells = false) : obj w' b t cs :=
  h.kept hg fun e => by
    obtain ⟨o, ho, hc⟩ := hr b e.symm
    rw [show w.heap[b]? = _ from h] at ho
    cases ho
    cases hc
theorem cutI_own {w : World} {n₀ : Nat} {B : List Int} {most : Nat} {s own : Int} {o : Bool} {v : Value} {m : Nat} (hm : w.heap.size ≤ m) : OwnFrom m (CutI w n₀ B most s own o v) := by
  rintro pre W W' row ⟨⟨rv, X, h1, h2, h3, h4⟩, h5, h6, h7, h8⟩ hg hr
  have hr' : ∀ r, row = some r → ∃ o : Obj, W.heap[r]? = some o ∧ o.isCells = false := fun r e => (hr r e).2
  exact ⟨⟨rv, X, h1.cells hg hr', h2, h3, h4.cellsOnly hg hr'⟩, h5.cellsOnly hg hr', h6.cellsOnly hg hr', turned_grown h7 hg (fun k e => .inr (Nat.le_trans hm (hr k e).1)), Nat.le_trans h8 hg.size⟩
theorem Made.base {n₀ m : Nat} {w : World} {v : Value} {X : List PD} {Bs : List (List Int)} (h : Made n₀ w v X Bs) (hm : m ≤ n₀) : Made m w v X Bs :=
  ⟨row_base h.1 hm, h.2.1, fun i a b => (h.2.2.1 i a b).base hm, h.2.2.2⟩
theorem keeps_turned {m : Nat} {x y : World} (t : turned x y []) : KeepsFrom m x y := ⟨t.2.2.2.1, fun k o _ hk _ => (t.2.2.2.2 k (Array.getElem?_eq_some_iff.1 hk).1 (by simp)).trans hk⟩
theorem keeps_row {m base n sz : Nat} {e : TypeId} {v : Value} {xs : List Value} {x y : World} (hr : x.ownsRow base e sz v n xs) (hg : x.grownBy y v.ownBlock) : KeepsFrom m x y :=
  ⟨hg.size, fun k o _ hk ho => by
    refine (hg.block k (Array.getElem?_eq_some_iff.1 hk).1 fun e => ?_).trans hk
    rcases hr.2 with ⟨rfl, _⟩ | ⟨g, cap, cur, rfl, _, hgb, _⟩
    · simp [Value.ownBlock] at e
    · simp [Value.ownBlock] at e
      subst e
      rw [hgb] at hk
      cases hk
      cases ho⟩
theorem beside_row {c n₀ n sz : Nat} {e : TypeId} {v : Value} {xs : List Value} {x y : World} (hn : n₀ ≤ x.heap.size) (hr : x.ownsRow n₀ e sz v n xs) (hg : x.grownBy y v.ownBlock) : Beside c n₀ x y :=
  ⟨hg.size, fun k hk _ => hg.block k (by omega) fun e => by
    have := (row_lt hr k e.symm).1
    omega⟩
theorem beside_turned {c n₀ : Nat} {x y : World} (hn : n₀ ≤ x.heap.size) (t : turned x y []) : Beside c n₀ x y := ⟨t.2.2.2.1, fun k hk _ => t.2.2.2.2 k (by omega) (by simp)⟩
theorem beside_set {c n₀ : Nat} (x : World) (v : Value) : Beside c n₀ x (x.setCell ⟨c, 0, none⟩ v) := ⟨(grownBy_setCell' x c v).size, fun k _ hk => Below.heap_setCell _ _ _ k hk⟩
theorem Made.setBox {n₀ c : Nat} {w : World} {v : Value} {X : List PD} {Bs : List (List Int)} {t : TypeId} {cs : List Value} (h : Made n₀ w v X Bs) (hc : obj w c t cs) (ht1 : t ≠ 38) (ht2 : t ≠ 5) (u : Value) : Made n₀ (w.setCell ⟨c, 0, none⟩ u) v X Bs :=
  ⟨h.1.kept (grownBy_setCell' w c u) (.inr fun e' => row_ne h.1 hc (Ne.symm ht1) (by rw [e'])), h.2.1, fun i a b => (h.2.2.1 i a b).kept (grownBy_setCell' w c u) (.inr fun e' => row_ne (h.2.2.1 i a b).1 hc (Ne.symm ht2) (by rw [e'])), h.2.2.2⟩
theorem Made.put {n₀ l : Nat} {w : World} {v : Value} {X : List PD} {Bs : List (List Int)} {o : Obj} (h : Made n₀ w v X Bs) (o' : Obj) (hl : w.heap[l]? = some o) (ho : o.isCells = false) : Made n₀ (w.putObj l o') v X Bs :=
  h.cells (grownBy_putObj' w l o') (fun r e => by cases e; exact ⟨o, hl, ho⟩)
/-- One cell of the row of pieces turns (not a piece's bytes). -/
theorem Made.turn {n₀ g cap n : Nat} {w : World} {X : List PD} {Bs : List (List Int)} (h : Made n₀ w (.slice (some ⟨g, 0, none⟩) n cap) X Bs) (hn : n = X.length) (k : Nat) (hk : k < X.length) (j : Nat) (hj : j < 7) (v : Value) (x : PD) (hx : cPD x = (cPD (X[k]'hk)).set j v) (hb : x.ba = (X[k]'hk).ba) (hb2 : x.bn = (X[k]'hk).bn) (hb3 : x.bc = (X[k]'hk).bc) :
    Made n₀ (w.setCell ⟨g, k * 7 + j, none⟩ v) (.slice (some ⟨g, 0, none⟩) n cap) (X.set k x) Bs := by
  subst hn
  have same : ∀ i (hi : i < (X.set k x).length), ((X.set k x)[i]'hi).ba = (X[i]'(by simpa using hi)).ba ∧ ((X.set k x)[i]'hi).bn = (X[i]'(by simpa using hi)).bn ∧ ((X.set k x)[i]'hi).bc = (X[i]'(by simpa using hi)).bc := fun i hi => by
    rw [List.getElem_set]
    split
    · rename_i e; subst e; exact ⟨hb, hb2, hb3⟩
    · exact ⟨rfl, rfl, rfl⟩
  have hr := (h.1.stored (k * 7 + j) v).1
  rw [flat_set cPD_len X k hk j hj v x hx] at hr
  refine ⟨by rw [List.length_set]; exact hr, by rw [List.length_set]; exact h.2.1, fun i hi hi' => ?_, fun i l hi hl hil a b ea eb => ?_⟩
  · have hi0 : i < X.length := by simpa using hi
    obtain ⟨e1, e2, e3⟩ := same i hi
    unfold rowB
    rw [e1, e2, e3]
    have hrow := h.2.2.1 i hi0 hi'
    have hg : w.grownBy (w.setCell ⟨g, k * 7 + j, none⟩ v) (some g) := only_set (only_refl w (some g)) v
    exact rowB.kept (x := X[i]'hi0) hrow hg (.inr fun e => rows_ne h.1 hrow.1 (by decide) g rfl e)
  · rw [(same i hi).1] at ea
    rw [(same l hl).1] at eb
    exact h.2.2.2 i l (by simpa using hi) (by simpa using hl) hil a b ea eb
/-- Pieces as they come out: the last one marked. -/
def shapedL (s own : Int) (u : Bool) (X : List PD) : Prop := ∀ i (h : i < X.length), X[i]'h = ⟨0, s, own, u, decide (i = 0), decide (i + 1 = X.length), (X[i]'h).ba, (X[i]'h).bn, (X[i]'h).bc⟩
theorem shaped.last {s own : Int} {u : Bool} {X : List PD} (h : shaped s own u X) (k : Nat) (hk : X.length = k + 1) : shapedL s own u (X.set k { X[k]'(by omega) with l := true }) := by
  intro i hi
  have hi0 : i < X.length := by simpa using hi
  have e := h i hi0
  simp only [List.getElem_set, List.length_set]
  split
  · rename_i ek
    subst ek
    rw [show (decide (k + 1 = X.length)) = true from decide_eq_true hk.symm]
    have := e
    revert this
    generalize X[k] = y
    intro this
    rw [this]
  · rename_i ek
    rw [show (decide (i + 1 = X.length)) = false from decide_eq_false (by omega)]
    exact e
end Go.Proofs.Ytcfpgeceenkheaa
