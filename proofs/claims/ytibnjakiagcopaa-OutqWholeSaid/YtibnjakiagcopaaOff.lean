/- A slice that begins somewhere in a block of the call's own: cut from the front, appended to. No condition. -/
import Derived.Test.YtibnjakiagcopaaSlc
import Derived.ArgAppend
namespace Go.Proofs.Ytibnjakiagcopaa
open Go.RowKit
set_option linter.unusedVariables false
set_option linter.unusedSimpArgs false

def setL (cur : Array Value) (o : Nat) : List Value → Array Value
  | [] => cur
  | v :: r => setL (cur.setIfInBounds o v) (o + 1) r
theorem setL_size (vs : List Value) : ∀ (cur : Array Value) (o : Nat), (setL cur o vs).size = cur.size := by
  induction vs with
  | nil => intro cur o; rfl
  | cons v r ih => intro cur o; rw [setL, ih]; simp
theorem setL_list (vs : List Value) : ∀ (cur : Array Value) (o : Nat), o + vs.length ≤ cur.size → (setL cur o vs).toList = cur.toList.take o ++ vs ++ cur.toList.drop (o + vs.length) := by
  induction vs with
  | nil => intro cur o h; simp [setL]
  | cons v r ih =>
    intro cur o h
    simp only [List.length_cons] at h
    rw [setL, ih _ _ (by simp; omega), Array.toList_setIfInBounds]
    have h1 : o < cur.toList.length := by simp; omega
    rw [List.take_set, List.drop_set_of_lt (by omega), List.take_succ_eq_append_getElem h1, List.set_append_right _ _ (by simp; omega)]
    have h2 : (cur.toList.take o).length = o := by simp; omega
    rw [h2]
    simp only [Nat.sub_self, List.set_cons_zero, List.length_cons, List.append_assoc, List.cons_append, List.nil_append]
    rw [show o + 1 + r.length = o + (r.length + 1) by omega]
theorem setCells_block {g : Nat} {e : TypeId} (vs : List Value) : ∀ (w : World) (o : Nat) (cur : Array Value), w.heap[g]? = some (.cells cur e (0, 0)) → (w.setCells g o vs).heap[g]? = some (.cells (setL cur o vs) e (0, 0)) ∧ w.grownBy (w.setCells g o vs) (some g) := by
  induction vs with
  | nil => intro w o cur h; exact ⟨h, only_refl _ _⟩
  | cons v r ih =>
    intro w o cur h
    have h1 := heap_setCell_same w g o cur e v h
    obtain ⟨q1, q2⟩ := ih (w.setCell ⟨g, o, none⟩ v) (o + 1) _ h1
    exact ⟨q1, only_trans (only_set (only_refl w (some g)) v) q2⟩

/-- A slice whose elements lie in a block of the call's own, from some cell on. -/
def offRow (w : World) (base : Nat) (e : TypeId) (sz : Nat) (v : Value) (n : Nat) (xs : List Value) : Prop :=
  xs.length = n * sz ∧ ((v = .slice none 0 0 ∧ n = 0) ∨ ∃ g off cap cur, v = .slice (some ⟨g, off, none⟩) n cap ∧ base ≤ g ∧ w.heap[g]? = some (.cells cur e (0, 0)) ∧ n ≤ cap ∧ cap ≤ maxLen ∧ off + cap * sz ≤ cur.size ∧ (cur.toList.drop off).take (n * sz) = xs)
section
variable {w w' : World} {base : Nat} {e : TypeId} {sz n : Nat} {v : Value} {xs : List Value}
theorem offRow.of (h : w.ownsRow base e sz v n xs) : offRow w base e sz v n xs := by
  refine ⟨h.1, ?_⟩
  rcases h.2 with k | ⟨g, cap, cur, rfl, hb, hg, h1, h2, h3, h4⟩
  · exact .inl k
  · exact .inr ⟨g, 0, cap, cur, rfl, hb, hg, h1, h2, by omega, by rw [List.drop_zero]; exact h4⟩
theorem offRow.nil (w : World) (base : Nat) (e : TypeId) (sz : Nat) : offRow w base e sz (.slice none 0 0) 0 [] := offRow.of (World.ownsRow_nil w base e sz)
theorem offRow.form (h : offRow w base e sz v n xs) : ∃ a c, v = .slice a n c ∧ n ≤ c ∧ c ≤ maxLen ∧ (0 < n → ∃ g off, a = some ⟨g, off, none⟩) := by
  rcases h.2 with ⟨rfl, h0⟩ | ⟨g, off, cap, cur, rfl, _, _, h1, h2, _⟩
  · subst h0; exact ⟨none, 0, rfl, Nat.le_refl _, by decide, fun hn => absurd hn (by omega)⟩
  · exact ⟨_, cap, rfl, h1, h2, fun _ => ⟨g, off, rfl⟩⟩
theorem offRow.lt (h : offRow w base e sz v n xs) : ∀ k, v.ownBlock = some k → base ≤ k ∧ k < w.heap.size := by
  intro k hk
  rcases h.2 with ⟨rfl, _⟩ | ⟨g, off, cap, cur, rfl, hb, hg, _⟩
  · simp [Value.ownBlock] at hk
  · simp [Value.ownBlock] at hk
    subst hk
    exact ⟨hb, lt_of_block hg⟩
theorem offRow.rebase {b2 : Nat} (h : offRow w base e sz v n xs) (hb : b2 ≤ base) : offRow w b2 e sz v n xs := by
  refine ⟨h.1, ?_⟩
  rcases h.2 with hn | ⟨g, off, cap, cur, rfl, hg, rest⟩
  · exact Or.inl hn
  · exact Or.inr ⟨g, off, cap, cur, rfl, Nat.le_trans hb hg, rest⟩
theorem offRow.past {L : List Nat} (h : offRow w base e sz v n xs) (hg : turned w w' L) (hL : ∀ g, v.ownBlock = some g → g ∉ L) : offRow w' base e sz v n xs := by
  refine ⟨h.1, ?_⟩
  rcases h.2 with hn | ⟨g, off, cap, cur, rfl, hb, hgg, rest⟩
  · exact Or.inl hn
  · exact Or.inr ⟨g, off, cap, cur, rfl, hb, (hg.2.2.2.2 g (lt_of_block hgg) (hL g rfl)).trans hgg, rest⟩
theorem offRow.kept {row : Option Nat} (h : offRow w base e sz v n xs) (hg : w.grownBy w' row) (hne : v.ownBlock = none ∨ v.ownBlock ≠ row) : offRow w' base e sz v n xs := by
  refine ⟨h.1, ?_⟩
  rcases h.2 with hn | ⟨g, off, cap, cur, rfl, hb, hgg, rest⟩
  · exact Or.inl hn
  · refine Or.inr ⟨g, off, cap, cur, rfl, hb, (hg.block g (lt_of_block hgg) fun e => ?_).trans hgg, rest⟩
    rcases hne with q | q
    · simp [Value.ownBlock] at q
    · exact q (by simp [Value.ownBlock, e])
theorem offRow.ne {b : Nat} {t : TypeId} {cs : List Value} (h : offRow w base e sz v n xs) (k : obj w b t cs) (hne : e ≠ t) : v.ownBlock ≠ some b := by
  rcases h.2 with ⟨rfl, _⟩ | ⟨g, off, cap, cur, rfl, _, hg, _⟩
  · simp [Value.ownBlock]
  · intro he
    have : g = b := by simpa [Value.ownBlock] using he
    subst this
    unfold obj at k
    rw [k] at hg
    simp only [Option.some.injEq, Obj.cells.injEq] at hg
    exact hne hg.2.1.symm
theorem offRow.cellAt {g off cap : Nat} (h : offRow w base e sz (.slice (some ⟨g, off, none⟩) n cap) n xs) (j : Nat) {u : Value} (hu : xs[j]? = some u) : w.cell? ⟨g, off + j, none⟩ = some u := by
  rcases h.2 with ⟨h', _⟩ | ⟨g', off', cap', cur, h', _, hg, _, _, _, htake⟩
  · simp at h'
  · simp only [Value.slice.injEq, Option.some.injEq, Addr.mk.injEq, and_true, true_and] at h'
    obtain ⟨⟨rfl, rfl⟩, rfl⟩ := h'
    rw [cell_of_row w g (off + j) cur e (0, 0) hg]
    rw [← htake, List.getElem?_take] at hu
    split at hu
    · rw [List.getElem?_drop] at hu
      simpa using hu
    · cases hu
theorem offRow.free {g off cap : Nat} (h : offRow w base e sz (.slice (some ⟨g, off, none⟩) n cap) n xs) (j : Nat) : w.frozen? ⟨g, j, none⟩ = false := by
  rcases h.2 with ⟨h', _⟩ | ⟨g', off', cap', cur, h', _, hg, _, _, _, htake⟩
  · simp at h'
  · simp only [Value.slice.injEq, Option.some.injEq, Addr.mk.injEq, and_true, true_and] at h'
    obtain ⟨⟨rfl, rfl⟩, rfl⟩ := h'
    exact frozen_of_row w g j cur e hg
theorem offRow.lies (h : offRow w base e sz v n xs) : Lies w sz v n xs := by
  refine ⟨h.1, ?_⟩
  rcases h.2 with ⟨rfl, h0⟩ | ⟨g, off, cap, cur, rfl, hb, hg, h1, h2, h3, h4⟩
  · subst h0; exact ⟨none, 0, rfl, Nat.le_refl _, by omega, fun hn => absurd hn (by omega)⟩
  · exact ⟨_, cap, rfl, h1, h2, fun hn => ⟨g, off, rfl, lt_of_block hg, fun j u hu => offRow.cellAt (base := base) (e := e) ⟨h.1, .inr ⟨g, off, cap, cur, rfl, hb, hg, h1, h2, h3, h4⟩⟩ j hu⟩⟩
/-- The slice from its k-th element on. -/
theorem offRow.from_ {g off cap : Nat} (h : offRow w base e sz (.slice (some ⟨g, off, none⟩) n cap) n xs) (k : Nat) (hk : k ≤ n) : offRow w base e sz (.slice (some (if cap = k then ⟨g, off, none⟩ else ⟨g, off + k * sz, none⟩)) (n - k) (cap - k)) (n - k) (xs.drop (k * sz)) := by
  have hl := h.1
  refine ⟨by rw [List.length_drop, h.1, Nat.sub_mul], ?_⟩
  rcases h.2 with ⟨h', _⟩ | ⟨g', off', cap', cur, h', hb, hg, h1, h2, h3, htake⟩
  · simp at h'
  · simp only [Value.slice.injEq, Option.some.injEq, Addr.mk.injEq, and_true, true_and] at h'
    obtain ⟨⟨rfl, rfl⟩, rfl⟩ := h'
    by_cases hc : cap = k
    · have hnk : n = k := by omega
      subst hnk
      rw [if_pos hc]
      refine .inr ⟨g, off, _, cur, rfl, hb, hg, by omega, by omega, by subst hc; rw [Nat.sub_self, Nat.zero_mul]; omega, ?_⟩
      rw [Nat.sub_self, Nat.zero_mul, List.take_zero, List.drop_eq_nil_of_le (by omega)]
    · rw [if_neg hc]
      refine .inr ⟨g, off + k * sz, _, cur, rfl, hb, hg, by omega, by omega, ?_, ?_⟩
      · rw [Nat.sub_mul]
        have : k * sz ≤ cap * sz := Nat.mul_le_mul_right _ (by omega)
        omega
      · rw [← htake, List.drop_take, List.drop_drop, Nat.sub_mul]
end
section
variable {P : Program}
theorem run_append_none' (w : World) (t ty e : TypeId) (i : TypeInfo) (ht : P.underlying t = some (.slice e)) (hi : P.info? e = some i) (a : Addr) (n cap c : Nat) (hn : n ≤ cap) : (Builtin.append_ #[t, t] ty #[.slice (some a) n cap, .slice none 0 c]).run P w = .ok (.slice (some a) n cap) w := by
  simp [Builtin.append_, run_underlying ht, sizeOf, typeInfo, hi, Builtin.lenOf, Builtin.firstCells, hn, storeCells]
theorem run_append_off (w : World) (base : Nat) (t ty e : TypeId) (i : TypeInfo) (z : Value) (size bytes : Nat) (ht : P.underlying t = some (.slice e)) (hi : P.info? e = some i) (hz : i.zero = some z)
    (hsize : i.size = size) (hby : i.bytes = bytes) (hzs : z.cells.size = size) (hsz : 0 < size)
    (v : Value) (n : Nat) (xs : List Value) (hown : offRow w base e size v n xs)
    (x : Value) (m : Nat) (news : List Value) (hr : Lies w size x m news) (h1 : ∀ u ∈ news, u.oneCell' = true)
    (h63 : n + m ≤ maxLen) (hbytes : (n + m) * bytes ≤ 140737488355328) (hbase : base ≤ w.heap.size) :
    ∃ v' w', (Builtin.append_ #[t, t] ty #[v, x]).run P w = .ok v' w' ∧ offRow w' base e size v' (n + m) (xs ++ news) ∧ w.grownBy w' v.ownBlock ∧
      (v'.ownBlock = v.ownBlock ∨ ∀ k, v'.ownBlock = some k → w.heap.size ≤ k) := by
  have hxl := hown.1
  rcases hown.2 with ⟨rfl, h0⟩ | ⟨g, off, cap, cur, rfl, hb, hg, hnc, hcm, hfit, htake⟩
  · subst h0
    have hxs : xs = [] := List.eq_nil_of_length_eq_zero (by simpa using hxl)
    subst hxs
    obtain ⟨v', w', q1, q2, q3, q4⟩ := run_append_lies' (P := P) w base t ty e i z size bytes ht hi hz hsize hby hzs hsz _ 0 [] (World.ownsRow_nil w base e size) x m news hr h1 h63 hbytes hbase
    exact ⟨v', w', q1, offRow.of q2, q3, q4.imp id (fun h k e => by rw [h] at e; cases e; exact Nat.le_refl _)⟩
  obtain ⟨hnl, a, c, rfl, g2, g3, g4⟩ := hr
  cases a with
  | none =>
    have hm : m = 0 := by
      rcases Nat.eq_zero_or_pos m with h | h
      · exact h
      · obtain ⟨b, off, e, _⟩ := g4 h; cases e
    subst hm
    have hn : news = [] := List.eq_nil_of_length_eq_zero (by simpa using hnl)
    subst hn
    exact ⟨_, w, run_append_none' w t ty e i ht hi _ n cap c hnc, by simpa using hown, only_refl w _, .inl rfl⟩
  | some ad =>
    have hcells : ∀ j u, news[j]? = some u → w.cell? (ad.add j) = some u := by
      intro j u hu
      rcases Nat.eq_zero_or_pos m with h | h
      · subst h
        have hn : news = [] := List.eq_nil_of_length_eq_zero (by simpa using hnl)
        subst hn
        simp at hu
      · obtain ⟨b, o2, e, _, hc⟩ := g4 h
        cases e
        have : (⟨b, o2, none⟩ : Addr).add j = ⟨b, o2 + j, none⟩ := by unfold Addr.add; split <;> simp_all
        rw [this]
        exact hc j u hu
    subst hsize
    by_cases hroom : n + m ≤ cap
    · have hsp : off + n * i.size + news.length ≤ cur.size := by
        rw [hnl, Nat.add_assoc, ← Nat.add_mul]
        exact Nat.le_trans (Nat.add_le_add_left (Nat.mul_le_mul_right _ hroom) _) hfit
      have hrun := run_append_room_cells (P := P) w t ty e i ht hi g off n cap ad m c news hnl hcells h1 hroom
        (fun j hj => by rw [cell_of_row w g _ cur e (0, 0) hg]; simp; omega) (fun j hj => frozen_of_row w g _ cur e hg)
      obtain ⟨q1, q2⟩ := setCells_block news w (off + n * i.size) cur hg
      refine ⟨_, _, hrun, ⟨by rw [List.length_append, hxl, hnl, Nat.add_mul], .inr ⟨g, off, cap, _, rfl, hb, q1, hroom, hcm, by rw [setL_size]; exact hfit, ?_⟩⟩, q2, .inl rfl⟩
      rw [setL_list _ _ _ hsp]
      have e1 : (cur.toList.take (off + n * i.size)).drop off = xs := by
        rw [List.drop_take, Nat.add_sub_cancel_left]; exact htake
      have e2 : off ≤ (cur.toList.take (off + n * i.size)).length := by simp; omega
      rw [List.append_assoc, List.drop_append_of_le_length e2, e1, ← List.append_assoc, List.take_left' (by rw [List.length_append, hxl, hnl, Nat.add_mul])]
    · have hadd : ∀ j, (⟨g, off, none⟩ : Addr).add j = ⟨g, off + j, none⟩ := fun j => by unfold Addr.add; split <;> simp_all
      obtain ⟨v', w', hrun, q2, q3⟩ := run_append_arg_grows (P := P) w t ty e i z i.size bytes ht hi hz rfl hby hzs hsz ⟨g, off, none⟩ n cap xs hxl (fun j u hu => by rw [hadd]; exact hown.cellAt j hu) ad m c news hnl hcells (by omega) h63 hbytes
      exact ⟨v', w', hrun, (offRow.of q2).rebase hbase, only_some q3 _, .inr fun k e => (q2.lt k e).1⟩
/-- 'append(s, x...)' onto such a slice. -/
theorem wpList_append_off (w : World) {ops : Array Oper} {rest : List Oper} {o : Oper} {a : Act} {Q : Exit → Act → World → Prop} (hgd : o.guard = none) (s x : Operand) (t : TypeId)
    (ho : o.op = .call { callee := .builtin .append, args := #[s, x], argTypes := #[t, t] })
    (base : Nat) (e : TypeId) (i : TypeInfo) (z : Value) (size bytes : Nat) (ht : P.underlying t = some (.slice e)) (hi : P.info? e = some i) (hz : i.zero = some z)
    (hsize : i.size = size) (hby : i.bytes = bytes) (hzs : z.cells.size = size) (hsz : 0 < size)
    (v : Value) (n : Nat) (xs : List Value) (hs : a.eval s = v) (hown : offRow w base e size v n xs)
    (y : Value) (m : Nat) (news : List Value) (hx : a.eval x = y) (hr : Lies w size y m news) (h1 : ∀ u ∈ news, u.oneCell' = true)
    (h63 : n + m ≤ maxLen) (hbytes : (n + m) * bytes ≤ 140737488355328) (hbase : base ≤ w.heap.size)
    (h : ∀ v' w', offRow w' base e size v' (n + m) (xs ++ news) → w.grownBy w' v.ownBlock → (v'.ownBlock = v.ownBlock ∨ ∀ k, v'.ownBlock = some k → w.heap.size ≤ k) → wpList P ops Q rest (a.put o.dst v') w') : wpList P ops Q (o :: rest) a w := by
  refine wpList_plain hgd fun K hK => ?_
  obtain ⟨v', w', hrun, h2, h3, h4⟩ := run_append_off (P := P) w base t o.type e i z size bytes ht hi hz hsize hby hzs hsz v n xs hown y m news hr h1 h63 hbytes hbase
  unfold Oper.wp execOp
  simp only [ho, resolve, invoke, builtin, Sem.run_bind, Sem.run_pure, Result.andThen_ok, List.map_toArray, List.map_cons, List.map_nil, hs, hx, hrun]
  exact hK _ _ (h v' w' h2 h3 h4)
end
end Go.Proofs.Ytibnjakiagcopaa
