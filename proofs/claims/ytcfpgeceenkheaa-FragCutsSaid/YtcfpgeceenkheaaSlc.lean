/- Slices of elements of several cells: how their cells lie, in old memory or in a row of the call's own; appending one to another. No condition. -/
import Derived.Test.YtcfpgeceenkheaaTurned
import Derived.Maps.AppendAt
import Derived.Laws.OwnMore
namespace Go.Proofs.Ytcfpgeceenkheaa
open Go.RowKit
set_option linter.unusedVariables false
set_option linter.unusedSimpArgs false

section
variable {α : Type} {c : α → List Value} {sz : Nat}
/-- The cells of a row of elements. -/
def flat (c : α → List Value) (X : List α) : List Value := (X.map c).flatten
theorem flat_nil : flat c [] = [] := rfl
theorem flat_cons (x : α) (X : List α) : flat c (x :: X) = c x ++ flat c X := rfl
theorem flat_app (X Y : List α) : flat c (X ++ Y) = flat c X ++ flat c Y := by simp [flat]
theorem flat_single (x : α) : flat c [x] = c x := by simp [flat]
theorem flat_len (hc : ∀ x, (c x).length = sz) (X : List α) : (flat c X).length = X.length * sz := by
  induction X with
  | nil => simp [flat]
  | cons x X ih => rw [flat_cons, List.length_append, ih, hc, List.length_cons, Nat.add_mul, Nat.one_mul, Nat.add_comm]
theorem flat_at (hc : ∀ x, (c x).length = sz) (X : List α) (i : Nat) (h : i < X.length) (j : Nat) (hj : j < sz) : (flat c X)[i * sz + j]? = (c (X[i]'h))[j]? := by
  induction X generalizing i with
  | nil => simp at h
  | cons x X ih =>
    rw [flat_cons]
    cases i with
    | zero => rw [Nat.zero_mul, Nat.zero_add, List.getElem?_append_left (by rw [hc]; exact hj)]; rfl
    | succ i =>
      rw [List.getElem?_append_right (by rw [hc, Nat.add_mul]; omega), hc, show (i + 1) * sz + j - sz = i * sz + j by rw [Nat.add_mul, Nat.one_mul]; omega]
      simpa using ih i (by simpa using h)
theorem flat_one (h1 : ∀ x u, u ∈ c x → u.oneCell' = true) (X : List α) : ∀ u, u ∈ flat c X → u.oneCell' = true := by
  intro u hu
  simp only [flat, List.mem_flatten, List.mem_map] at hu
  obtain ⟨l, ⟨x, _, rfl⟩, hu⟩ := hu
  exact h1 x u hu
theorem flat_take (hc : ∀ x, (c x).length = sz) (X : List α) (k : Nat) : flat c (X.take k) = (flat c X).take (k * sz) := by
  induction X generalizing k with
  | nil => simp [flat]
  | cons x X ih =>
    cases k with
    | zero => simp [flat]
    | succ k => rw [List.take_succ_cons, flat_cons, flat_cons, ih, show (k + 1) * sz = (c x).length + k * sz by rw [hc, Nat.add_mul, Nat.one_mul, Nat.add_comm], List.take_length_add_append]
theorem flat_drop (hc : ∀ x, (c x).length = sz) (X : List α) (k : Nat) : flat c (X.drop k) = (flat c X).drop (k * sz) := by
  induction X generalizing k with
  | nil => simp [flat]
  | cons x X ih =>
    cases k with
    | zero => simp [flat]
    | succ k => rw [List.drop_succ_cons, flat_cons, ih, show (k + 1) * sz = (c x).length + k * sz by rw [hc, Nat.add_mul, Nat.one_mul, Nat.add_comm], List.drop_length_add_append]
theorem flat_set (hc : ∀ x, (c x).length = sz) (X : List α) (i : Nat) (h : i < X.length) (j : Nat) (hj : j < sz) (v : Value) (x : α) (hx : c x = (c (X[i]'h)).set j v) : (flat c X).set (i * sz + j) v = flat c (X.set i x) := by
  induction X generalizing i with
  | nil => simp at h
  | cons y X ih =>
    cases i with
    | zero =>
      rw [flat_cons, List.set_cons_zero, flat_cons, hx, Nat.zero_mul, Nat.zero_add, List.set_append_left _ _ (by rw [hc]; exact hj)]; rfl
    | succ i =>
      rw [flat_cons, List.set_cons_succ, flat_cons, List.set_append_right _ _ (by rw [hc, Nat.add_mul]; omega), hc, show (i + 1) * sz + j - sz = i * sz + j by rw [Nat.add_mul, Nat.one_mul]; omega,
        ih i (by simpa using h) (by simpa using hx)]
end

/-- A slice whose cells are these: nil, or somewhere in a block. -/
def Lies (w : World) (sz : Nat) (v : Value) (n : Nat) (xs : List Value) : Prop :=
  xs.length = n * sz ∧ ∃ a cap, v = .slice a n cap ∧ n ≤ cap ∧ cap ≤ 9223372036854775807 ∧ (0 < n → ∃ b off, a = some ⟨b, off, none⟩ ∧ b < w.heap.size ∧ ∀ j u, xs[j]? = some u → w.cell? ⟨b, off + j, none⟩ = some u)

section
variable {w w' : World} {sz n : Nat} {v : Value} {xs : List Value}
theorem Lies.nil (w : World) (sz : Nat) : Lies w sz (.slice none 0 0) 0 [] := ⟨by simp, none, 0, rfl, Nat.le_refl _, by omega, fun h => absurd h (by omega)⟩
theorem Lies.keep {L : List Nat} (h : Lies w sz v n xs) (t : turned w w' L) (hL : ∀ a m c, v = .slice (some a) m c → a.block ∉ L) : Lies w' sz v n xs := by
  obtain ⟨h0, a, cap, h1, h2, h3, h4⟩ := h
  refine ⟨h0, a, cap, h1, h2, h3, fun hn => ?_⟩
  obtain ⟨b, off, rfl, hb, hc⟩ := h4 hn
  exact ⟨b, off, rfl, Nat.lt_of_lt_of_le hb t.2.2.2.1, fun j u hu => turned_cell t (hc j u hu) (hL ⟨b, off, none⟩ n cap h1)⟩
theorem Lies.none_ (h : Lies w sz v n xs) (t : turned w w' []) : Lies w' sz v n xs := h.keep t (fun _ _ _ _ => by simp)
theorem Lies.below (h : Lies w sz v n xs) (hb : Below w.heap.size w w') : Lies w' sz v n xs :=
  h.none_ ⟨hb.os, hb.tape, hb.output, hb.size, fun k hk _ => hb.block k hk⟩
theorem Lies.row {base : Nat} {e : TypeId} (h : w.ownsRow base e sz v n xs) : Lies w sz v n xs := by
  refine ⟨h.1, ?_⟩
  rcases h.2 with ⟨rfl, h0⟩ | ⟨g, cap, cur, rfl, _, hg, h1, h2, _, htake⟩
  · subst h0; exact ⟨none, 0, rfl, Nat.le_refl _, by omega, fun hn => absurd hn (by omega)⟩
  · refine ⟨_, cap, rfl, h1, h2, fun hn => ⟨g, 0, rfl, lt_of_block hg, fun j u hu => ?_⟩⟩
    have hj := (List.getElem?_eq_some_iff.1 hu).1
    rw [Nat.zero_add, World.ownsRow.cellAt h j (by rw [← h.1]; exact hj)]
    exact hu
theorem Lies.len (h : Lies w sz v n xs) : n ≤ 9223372036854775807 := by obtain ⟨_, a, cap, _, h1, h2, _⟩ := h; omega
theorem Lies.form (h : Lies w sz v n xs) : ∃ a cap, v = .slice a n cap ∧ n ≤ cap ∧ cap ≤ 9223372036854775807 := by obtain ⟨_, a, cap, h0, h1, h2, _⟩ := h; exact ⟨a, cap, h0, h1, h2⟩
end

section
variable {P : Program}
theorem run_append_of_none (w : World) (base : Nat) (t ty e : TypeId) (i : TypeInfo) (size : Nat) (ht : P.underlying t = some (.slice e)) (hi : P.info? e = some i)
    (v : Value) (n : Nat) (xs : List Value) (hown : w.ownsRow base e size v n xs) (c : Nat) : (Builtin.append_ #[t, t] ty #[v, .slice none 0 c]).run P w = .ok v w := by
  rcases hown.2 with ⟨rfl, rfl⟩ | ⟨g, cap, cur, rfl, _, _, hnc, _⟩
  · simp [Builtin.append_, run_underlying ht, sizeOf, typeInfo, hi, Builtin.lenOf, Builtin.firstCells]
  · simp [Builtin.append_, run_underlying ht, sizeOf, typeInfo, hi, Builtin.lenOf, Builtin.firstCells, hnc, storeCells]

theorem run_append_lies' (w : World) (base : Nat) (t ty e : TypeId) (i : TypeInfo) (z : Value) (size bytes : Nat) (ht : P.underlying t = some (.slice e)) (hi : P.info? e = some i) (hz : i.zero = some z)
    (hsize : i.size = size) (hby : i.bytes = bytes) (hzs : z.cells.size = size) (hsz : 0 < size)
    (v : Value) (n : Nat) (xs : List Value) (hown : w.ownsRow base e size v n xs)
    (x : Value) (m : Nat) (news : List Value) (hr : Lies w size x m news) (h1 : ∀ u ∈ news, u.oneCell' = true)
    (h63 : n + m ≤ maxLen) (hbytes : (n + m) * bytes ≤ 140737488355328) (hbase : base ≤ w.heap.size) :
    ∃ v' w', (Builtin.append_ #[t, t] ty #[v, x]).run P w = .ok v' w' ∧ w'.ownsRow base e size v' (n + m) (xs ++ news) ∧ w.grownBy w' v.ownBlock ∧
      (v'.ownBlock = v.ownBlock ∨ v'.ownBlock = some w.heap.size) := by
  obtain ⟨h0, a, cap, rfl, h2, h3, h4⟩ := hr
  cases a with
  | none =>
    have hm : m = 0 := by
      rcases Nat.eq_zero_or_pos m with h | h
      · exact h
      · obtain ⟨b, off, e, _⟩ := h4 h; cases e
    subst hm
    have hn : news = [] := List.eq_nil_of_length_eq_zero (by simpa using h0)
    subst hn
    exact ⟨v, w, run_append_of_none w base t ty e i size ht hi v n xs hown cap, by simpa using hown, only_refl w _, .inl rfl⟩
  | some ad =>
    have hcells : ∀ j u, news[j]? = some u → w.cell? (ad.add j) = some u := by
      intro j u hu
      rcases Nat.eq_zero_or_pos m with h | h
      · subst h
        have hn : news = [] := List.eq_nil_of_length_eq_zero (by simpa using h0)
        subst hn
        simp at hu
      · obtain ⟨b, off, e, _, hc⟩ := h4 h
        cases e
        have : (⟨b, off, none⟩ : Addr).add j = ⟨b, off + j, none⟩ := by unfold Addr.add; split <;> simp_all
        rw [this]
        exact hc j u hu
    obtain ⟨v', w', hrun, r2, r3, _, r5⟩ := run_append_own_at (P := P) w base t ty e i z size bytes ht hi hz hsize hby hzs hsz v n xs hown ad m cap news h0 hcells h1 h63 hbytes hbase
    exact ⟨v', w', hrun, r2, r3, r5⟩

/-- 'append(s, x...)' onto a row of the call's own, of a slice that lies anywhere, or of nil. -/
theorem wpList_append_lies' (w : World) {ops : Array Oper} {rest : List Oper} {o : Oper} {a : Act} {Q : Exit → Act → World → Prop} (hgd : o.guard = none) (s x : Operand) (t : TypeId)
    (ho : o.op = .call { callee := .builtin .append, args := #[s, x], argTypes := #[t, t] })
    (base : Nat) (e : TypeId) (i : TypeInfo) (z : Value) (size bytes : Nat) (ht : P.underlying t = some (.slice e)) (hi : P.info? e = some i) (hz : i.zero = some z)
    (hsize : i.size = size) (hby : i.bytes = bytes) (hzs : z.cells.size = size) (hsz : 0 < size)
    (v : Value) (n : Nat) (xs : List Value) (hs : a.eval s = v) (hown : w.ownsRow base e size v n xs)
    (y : Value) (m : Nat) (news : List Value) (hx : a.eval x = y) (hr : Lies w size y m news) (h1 : ∀ u ∈ news, u.oneCell' = true)
    (h63 : n + m ≤ maxLen) (hbytes : (n + m) * bytes ≤ 140737488355328) (hbase : base ≤ w.heap.size)
    (h : ∀ v' w', w'.ownsRow base e size v' (n + m) (xs ++ news) → w.grownBy w' v.ownBlock → (v'.ownBlock = v.ownBlock ∨ v'.ownBlock = some w.heap.size) → wpList P ops Q rest (a.put o.dst v') w') : wpList P ops Q (o :: rest) a w := by
  refine wpList_plain hgd fun K hK => ?_
  obtain ⟨v', w', hrun, h2, h3, h4⟩ := run_append_lies' (P := P) w base t o.type e i z size bytes ht hi hz hsize hby hzs hsz v n xs hown y m news hr h1 h63 hbytes hbase
  unfold Oper.wp execOp
  simp only [ho, resolve, invoke, builtin, Sem.run_bind, Sem.run_pure, Result.andThen_ok, List.map_toArray, List.map_cons, List.map_nil, hs, hx, hrun]
  exact hK _ _ (h v' w' h2 h3 h4)
end

/-- A store into a block that was not there. -/
theorem turned_setNew {a w : World} {b i : Nat} {L : List Nat} (h : turned a w L) (hb : a.heap.size ≤ b) (v : Value) : turned a (w.setCell ⟨b, i, none⟩ v) L := by
  refine ⟨h.1, h.2.1, h.2.2.1, by simpa [World.setCell] using h.2.2.2.1, fun k hk hn => ?_⟩
  rw [Below.heap_setCell _ _ _ _ (by show k ≠ b; omega)]
  exact h.2.2.2.2 k hk hn
theorem turned_new {a b c : World} {row : Option Nat} {L : List Nat} (h : turned a b L) (g : b.grownBy c row) (hr : ∀ k, row = some k → a.heap.size ≤ k) : turned a c L := turned_grown h g (fun k e => Or.inr (hr k e))
theorem adr0 {g j : Nat} : (⟨g, 0, none⟩ : Addr).add j = ⟨g, j, none⟩ := by
  unfold Addr.add
  split <;> simp_all
theorem adr1 {g q j : Nat} : (⟨g, q, none⟩ : Addr).add j = ⟨g, q + j, none⟩ := by
  unfold Addr.add
  split <;> simp_all
theorem row_form {w : World} {base : Nat} {e : TypeId} {sz n : Nat} {v : Value} {xs : List Value} (h : w.ownsRow base e sz v n xs) : ∃ a c, v = .slice a n c ∧ n ≤ c ∧ c ≤ maxLen ∧ (0 < n → ∃ g, a = some ⟨g, 0, none⟩) := by
  rcases h.2 with ⟨rfl, h0⟩ | ⟨g, cap, cur, rfl, _, _, h1, h2, _⟩
  · subst h0; exact ⟨none, 0, rfl, Nat.le_refl _, by decide, fun hn => absurd hn (by omega)⟩
  · exact ⟨_, cap, rfl, h1, h2, fun _ => ⟨g, rfl⟩⟩
theorem row_past {w w' : World} {base : Nat} {e : TypeId} {sz n : Nat} {v : Value} {xs : List Value} {L : List Nat} (h : w.ownsRow base e sz v n xs) (hg : turned w w' L) (hL : ∀ g, v.ownBlock = some g → g ∉ L) : w'.ownsRow base e sz v n xs := by
  refine ⟨h.1, ?_⟩
  rcases h.2 with hn | ⟨g, cap, cur, rfl, hb, hgg, rest⟩
  · exact Or.inl hn
  · exact Or.inr ⟨g, cap, cur, rfl, hb, (hg.2.2.2.2 g (lt_of_block hgg) (hL g rfl)).trans hgg, rest⟩
/-- A row and an object of another type lie apart. -/
theorem row_ne {w : World} {base b : Nat} {e t : TypeId} {sz n : Nat} {v : Value} {xs cs : List Value} (h : w.ownsRow base e sz v n xs) (k : obj w b t cs) (hne : e ≠ t) : v.ownBlock ≠ some b := by
  rcases h.2 with ⟨rfl, _⟩ | ⟨g, cap, cur, rfl, _, hg, _⟩
  · simp [Value.ownBlock]
  · intro he
    have : g = b := by simpa [Value.ownBlock] using he
    subst this
    unfold obj at k
    rw [k] at hg
    simp only [Option.some.injEq, Obj.cells.injEq] at hg
    exact hne hg.2.1.symm
end Go.Proofs.Ytcfpgeceenkheaa
