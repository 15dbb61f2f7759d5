/- A table of times in memory, and what its steps do, as plain lists. No condition. -/
import Derived.Test.YtebdnciehobfaaaTurned
import Derived.Maps.RangeWalk
import Derived.Maps.OwnOps
import Derived.Maps.OwnSet
import Derived.Maps.Views
namespace Go.Proofs.Ytebdnciehobfaaa
open Go.RowKit Go.Maps
set_option linter.unusedVariables false
set_option linter.unusedSimpArgs false
set_option linter.unusedSectionVars false

def td (e : Int × Int) : DataW Unit := .agg [.lit (.int .i64 e.1), .lit (.int .u64 e.2)]
def tv (e : Int × Int) : Value := .agg #[.int .i64 e.1, .int .u64 e.2]
/-- How a timer reads. -/
def RT (v : Value) : Option (DataW Unit × List MemPlace) :=
  match v with
  | .agg cs => match cs.toList with
    | [.int .i64 a, .int .u64 u] => some (td (a, u), [])
    | _ => none
  | _ => none
theorem RT_mk (e : Int × Int) : RT (tv e) = some (td e, []) := rfl
theorem RT_inv {v : Value} {y : DataW Unit × List MemPlace} (h : RT v = some y) : ∃ e, v = tv e ∧ y = (td e, []) := by
  unfold RT at h
  split at h
  · rename_i cs
    split at h
    · rename_i a u he
      have : cs = #[.int .i64 a, .int .u64 u] := by rw [← Array.toList_inj, he]
      exact ⟨(a, u), by rw [this]; rfl, (Option.some.inj h).symm⟩
    · cases h
  · cases h
theorem td_inj {e f : Int × Int} (h : td e = td f) : e = f := by
  obtain ⟨a, u⟩ := e
  obtain ⟨b, v⟩ := f
  simp only [td, DataW.agg.injEq, List.cons.injEq, DataW.lit.injEq, Lit.int.injEq, and_true, true_and] at h
  rw [h.1, h.2]

section
variable {α : Type} [DecidableEq α] {lk : α → Lit}

/-- What the map reads as, told by the row of its entries in the order in which they were set. -/
structure Agree (lk : α → Lit) (D : DataW Unit) (es : List (α × Int × Int)) : Prop where
  tidy : Tidy D
  has : ∀ kl, Maps.has D kl = true ↔ ∃ e, e ∈ es ∧ lk e.1 = kl
  val : ∀ e, e ∈ es → ∀ z, D.atKey (lk e.1) z = td e.2
  size : Maps.size D = es.length
  keys : es.Pairwise (fun a b => a.1 ≠ b.1)

def cut (k : α) (es : List (α × Int × Int)) : List (α × Int × Int) := es.filter (fun e => decide (e.1 ≠ k))
theorem mem_cut {k : α} {es : List (α × Int × Int)} {e : α × Int × Int} : e ∈ cut k es ↔ e ∈ es ∧ e.1 ≠ k := by simp [cut]
theorem cut_none {k : α} {es : List (α × Int × Int)} (h : ¬ ∃ e, e ∈ es ∧ e.1 = k) : cut k es = es :=
  List.filter_eq_self.2 fun e he => decide_eq_true (fun e1 => h ⟨e, he, e1⟩)
theorem cut_length {k : α} : ∀ {es : List (α × Int × Int)}, es.Pairwise (fun a b => a.1 ≠ b.1) → (∃ e, e ∈ es ∧ e.1 = k) → (cut k es).length + 1 = es.length
  | [], _, h => by obtain ⟨e, h, _⟩ := h; cases h
  | a :: r, hp, h => by
    obtain ⟨h1, h2⟩ := List.pairwise_cons.1 hp
    by_cases ha : a.1 = k
    · have : cut k (a :: r) = r := by
        unfold cut
        rw [List.filter_cons, if_neg (by simp [ha])]
        exact List.filter_eq_self.2 fun e he => decide_eq_true (fun e1 => h1 e he (ha.trans e1.symm))
      rw [this]; rfl
    · have : cut k (a :: r) = a :: cut k r := by
        unfold cut
        rw [List.filter_cons, if_pos (by simp [ha])]
      rw [this]
      have : ∃ e, e ∈ r ∧ e.1 = k := by
        obtain ⟨e, he, e1⟩ := h
        rcases List.mem_cons.1 he with rfl | he
        · exact absurd e1 ha
        · exact ⟨e, he, e1⟩
      simp [← cut_length h2 this]

theorem Agree.empty (lk : α → Lit) : Agree lk (.map []) [] := ⟨tidy_empty, fun kl => by simp [Maps.has], by simp, rfl, List.Pairwise.nil⟩
theorem Agree.iff {D : DataW Unit} {es : List (α × Int × Int)} (A : Agree lk D es) (k : α) (inj : ∀ e, e ∈ es → lk e.1 = lk k → e.1 = k) : Maps.has D (lk k) = true ↔ ∃ e, e ∈ es ∧ e.1 = k :=
  (A.has (lk k)).trans ⟨fun ⟨e, he, h⟩ => ⟨e, he, inj _ he h⟩, fun ⟨e, he, h⟩ => ⟨e, he, by rw [h]⟩⟩

theorem Agree.put {D : DataW Unit} {es : List (α × Int × Int)} (A : Agree lk D es) (k : α) (inj : ∀ e, e ∈ es → lk e.1 = lk k → e.1 = k) (hkey : WideAt.IsKeyLit (lk k)) (v : Int × Int) :
    Agree lk (D.put (lk k) (td v)) (cut k es ++ [(k, v)]) := by
  have hm := A.tidy.isMap
  refine ⟨A.tidy.put hkey _, fun kl => ?_, fun e he z => ?_, ?_, ?_⟩
  · by_cases h : kl = lk k
    · subst h
      rw [has_put_same hm hkey]
      exact ⟨fun _ => ⟨(k, v), by simp, rfl⟩, fun _ => rfl⟩
    · rw [has_put_other h, A.has kl]
      constructor
      · rintro ⟨e, he, rfl⟩
        exact ⟨e, by simp only [List.mem_append, mem_cut]; exact Or.inl ⟨he, fun e1 => h (by rw [e1])⟩, rfl⟩
      · rintro ⟨e, he, rfl⟩
        simp only [List.mem_append, mem_cut, List.mem_singleton] at he
        rcases he with ⟨he, _⟩ | rfl
        · exact ⟨e, he, rfl⟩
        · exact absurd rfl h
  · simp only [List.mem_append, mem_cut, List.mem_singleton] at he
    rcases he with ⟨he, hne⟩ | rfl
    · rw [atKey_put_other (fun e1 => hne (inj _ he e1)), A.val e he z]
    · exact atKey_put_same hm hkey _ _
  · rw [size_put A.tidy, A.size, List.length_append]
    by_cases h : ∃ e, e ∈ es ∧ e.1 = k
    · rw [if_pos ((A.iff k inj).2 h)]
      have := cut_length A.keys h
      simp; omega
    · rw [if_neg (fun h' => h ((A.iff k inj).1 h')), cut_none h]; rfl
  · rw [List.pairwise_append]
    refine ⟨A.keys.filter _, by simp, fun a ha b hb => ?_⟩
    rw [List.mem_singleton] at hb
    subst hb
    exact (mem_cut.1 ha).2

theorem Agree.del {D : DataW Unit} {es : List (α × Int × Int)} (A : Agree lk D es) (k : α) (inj : ∀ e, e ∈ es → lk e.1 = lk k → e.1 = k) : Agree lk (D.del (lk k)) (cut k es) := by
  refine ⟨A.tidy.del _, fun kl => ?_, fun e he z => ?_, ?_, A.keys.filter _⟩
  · by_cases h : kl = lk k
    · subst h
      rw [has_del_same]
      exact ⟨fun h => Bool.noConfusion h, fun ⟨e, he, e1⟩ => absurd (inj _ (mem_cut.1 he).1 e1) (mem_cut.1 he).2⟩
    · rw [has_del_other h, A.has kl]
      constructor
      · rintro ⟨e, he, rfl⟩
        exact ⟨e, mem_cut.2 ⟨he, fun e1 => h (by rw [e1])⟩, rfl⟩
      · rintro ⟨e, he, rfl⟩
        exact ⟨e, (mem_cut.1 he).1, rfl⟩
  · obtain ⟨he, hne⟩ := mem_cut.1 he
    rw [atKey_del_other (fun e1 => hne (inj _ he e1)), A.val e he z]
  · have := size_del (k := lk k) A.tidy
    rw [A.size] at this
    by_cases h : ∃ e, e ∈ es ∧ e.1 = k
    · rw [if_pos ((A.iff k inj).2 h)] at this
      have := cut_length A.keys h
      omega
    · rw [if_neg (fun h' => h ((A.iff k inj).1 h'))] at this
      rw [cut_none h]; exact this

/-! ### the row that the document keeps -/
def drp (k : α) (L : List (α × Int)) : List (α × Int) := L.filter (fun e => decide (e.1 ≠ k))
def low (x : α × Int) (y : α × Int) : α × Int := if y.2 < x.2 then y else x
/-- The first of the least times. -/
def best : List (α × Int) → Option (α × Int)
  | [] => none
  | x :: r => some (r.foldl low x)
theorem foldl_low (x : α × Int) : ∀ (l : List (α × Int)), (∀ y, y ∈ l → x.2 ≤ y.2) → l.foldl low x = x
  | [], _ => rfl
  | y :: r, h => by
    have := h y (by simp)
    rw [List.foldl_cons, low, if_neg (by omega)]
    exact foldl_low x r (fun z hz => h z (by simp [hz]))
theorem foldl_low2 (x : α × Int) : ∀ (l1 l2 : List (α × Int)) (z : α × Int), x.2 < z.2 → (∀ y, y ∈ l1 → x.2 < y.2) → (∀ y, y ∈ l2 → x.2 ≤ y.2) → (l1 ++ x :: l2).foldl low z = x
  | [], l2, z, hz, _, h2 => by
    rw [List.nil_append, List.foldl_cons, low, if_pos hz]
    exact foldl_low x l2 h2
  | y :: r, l2, z, hz, h1, h2 => by
    rw [List.cons_append, List.foldl_cons]
    refine foldl_low2 x r l2 _ ?_ (fun u hu => h1 u (by simp [hu])) h2
    unfold low
    split
    · exact h1 y (by simp)
    · exact hz
theorem best_of {x : α × Int} {l1 l2 : List (α × Int)} (h1 : ∀ y, y ∈ l1 → x.2 < y.2) (h2 : ∀ y, y ∈ l2 → x.2 ≤ y.2) : best (l1 ++ x :: l2) = some x := by
  cases l1 with
  | nil => rw [List.nil_append, best, foldl_low x l2 h2]
  | cons z r => rw [List.cons_append, best, foldl_low2 x r l2 z (h1 z (by simp)) (fun u hu => h1 u (by simp [hu])) h2]
theorem foldl_low_split : ∀ (l : List (α × Int)) (x : α × Int), ∃ l1 l2, x :: l = l1 ++ l.foldl low x :: l2 ∧ (∀ y, y ∈ l1 → (l.foldl low x).2 < y.2) ∧ (∀ y, y ∈ l2 → (l.foldl low x).2 ≤ y.2)
  | [], x => ⟨[], [], rfl, by simp, by simp⟩
  | y :: r, x => by
    rw [List.foldl_cons]
    by_cases h : y.2 < x.2
    · rw [low, if_pos h]
      obtain ⟨l1, l2, e, h1, h2⟩ := foldl_low_split r y
      refine ⟨x :: l1, l2, by rw [e]; rfl, fun z hz => ?_, h2⟩
      rcases List.mem_cons.1 hz with rfl | hz
      · have : y ∈ l1 ++ r.foldl low y :: l2 := by rw [← e]; simp
        simp only [List.mem_append, List.mem_cons] at this
        rcases this with m | m | m
        · have := h1 y m; omega
        · rw [← m]; exact h
        · have := h2 y m; omega
      · exact h1 z hz
    · rw [low, if_neg h]
      obtain ⟨l1, l2, e, h1, h2⟩ := foldl_low_split r x
      cases l1 with
      | nil =>
        simp only [List.nil_append, List.cons.injEq] at e
        refine ⟨[], y :: l2, by rw [List.nil_append, ← e.1, ← e.2], by simp, fun z hz => ?_⟩
        rcases List.mem_cons.1 hz with rfl | hz
        · rw [← e.1]; omega
        · exact h2 z hz
      | cons a l1 =>
        simp only [List.cons_append, List.cons.injEq] at e
        obtain ⟨rfl, e⟩ := e
        refine ⟨x :: y :: l1, l2, congrArg (fun q => x :: y :: q) e, fun z hz => ?_, h2⟩
        have hx := h1 x (by simp)
        simp only [List.mem_cons] at hz
        rcases hz with rfl | rfl | hz
        · exact hx
        · omega
        · exact h1 z (by simp [hz])
theorem best_split {x : α × Int} {L : List (α × Int)} (h : best L = some x) : ∃ l1 l2, L = l1 ++ x :: l2 ∧ (∀ y, y ∈ l1 → x.2 < y.2) ∧ (∀ y, y ∈ l2 → x.2 ≤ y.2) := by
  cases L with
  | nil => cases h
  | cons y r =>
    obtain rfl := Option.some.inj h
    exact foldl_low_split r y
theorem best_mem {x : α × Int} {L : List (α × Int)} (h : best L = some x) : x ∈ L := by
  obtain ⟨l1, l2, rfl, _⟩ := best_split h; simp
theorem best_le {x : α × Int} {L : List (α × Int)} (h : best L = some x) : ∀ y, y ∈ L → x.2 ≤ y.2 := by
  obtain ⟨l1, l2, rfl, h1, h2⟩ := best_split h
  intro y hy
  simp only [List.mem_append, List.mem_cons] at hy
  rcases hy with hy | rfl | hy
  · have := h1 y hy; omega
  · omega
  · exact h2 y hy
theorem best_some {L : List (α × Int)} (h : L ≠ []) : ∃ x, best L = some x := by
  cases L with
  | nil => exact absurd rfl h
  | cons y r => exact ⟨_, rfl⟩

/-- ahead -/
def ahd (x y : Int × Int) : Bool := decide (x.1 < y.1) || (decide (x.1 = y.1) && decide (x.2 < y.2))
def fst2 (e : α × Int × Int) : α × Int := (e.1, e.2.1)
theorem best_turns {es : List (α × Int × Int)} (ht : es.Pairwise (fun a b => a.2.2 < b.2.2)) {c : α × Int × Int} (hc : c ∈ es) (hmin : ∀ e, e ∈ es → ahd e.2 c.2 = false) : best (es.map fst2) = some (fst2 c) := by
  obtain ⟨l1, l2, rfl⟩ := List.append_of_mem hc
  rw [List.map_append, List.map_cons]
  obtain ⟨_, _, h3⟩ := List.pairwise_append.1 ht
  refine best_of (fun y hy => ?_) (fun y hy => ?_)
  · obtain ⟨e, he, rfl⟩ := List.mem_map.1 hy
    have h1 := hmin e (by simp [he])
    have h2 := h3 e he c (by simp)
    simp [ahd] at h1
    show c.2.1 < e.2.1
    by_cases e1 : e.2.1 = c.2.1
    · have := h1.2 e1; omega
    · omega
  · obtain ⟨e, he, rfl⟩ := List.mem_map.1 hy
    have h1 := hmin e (by simp [he])
    simp [ahd] at h1
    exact h1.1
theorem map_cut (k : α) (es : List (α × Int × Int)) : (cut k es).map fst2 = drp k (es.map fst2) := by
  unfold cut drp
  rw [List.filter_map]
  rfl

/-- Block b is a table (of type T, its keys of type kt) whose row is L; n: no more than that was set; F: the blocks that it may write. -/
def tab (P : Program) (T kt : TypeId) (mk : α → Value) (lk : α → Lit) (w : World) (b : Nat) (F : List Nat) (n : Nat) (L : List (α × Int)) : Prop :=
  ∃ (m : Nat) (D : DataW Unit) (turn : Int) (es : List (α × Int × Int)), obj w b T [.map (some m), .int .u64 turn] ∧ w.ownsMap P kt RT m n D ∧ Agree lk D es ∧
    es.Pairwise (fun a b => a.2.2 < b.2.2) ∧ (∀ e, e ∈ es → e.2.2 ≤ turn) ∧ 0 ≤ turn ∧ turn ≤ n ∧ (∀ e, e ∈ es → keyOf P kt (mk e.1) = some (lk e.1)) ∧ L = es.map fst2 ∧ F = [b, m]
variable {P : Program} {T kt : TypeId} {mk : α → Value}

theorem cell_alloc {w : World} {a : Addr} {v : Value} (h : w.cell? a = some v) (o : Obj) : (w.alloc o).cell? a = some v :=
  turned_cell (L := []) (turned_alloc (turned_refl w []) o) h (by simp)
theorem turned_map {w w' : World} {m : Nat} (h : w.mapTurned w' m) {L : List Nat} (hm : m ∈ L) : turned w w' L := turned_one h.grown hm
theorem any_iff {es : List (α × Int × Int)} {k : α} {b : Bool} (h : b = true ↔ ∃ e, e ∈ es ∧ e.1 = k) : decide (∃ x, x ∈ es.map fst2 ∧ x.1 = k) = b := by
  have : (∃ x, x ∈ es.map fst2 ∧ x.1 = k) ↔ b = true := by
    rw [h]
    constructor
    · rintro ⟨x, hx, e1⟩
      obtain ⟨e, he, rfl⟩ := List.mem_map.1 hx
      exact ⟨e, he, e1⟩
    · rintro ⟨e, he, e1⟩
      exact ⟨fst2 e, List.mem_map.2 ⟨e, he, rfl⟩, e1⟩
  cases b <;> simp_all
theorem ownsMap_past {w w' : World} {b n : Nat} {D : DataW Unit} {L : List Nat} (h : w.ownsMap P kt RT b n D) (hg : turned w w' L) (hL : b ∉ L) : w'.ownsMap P kt RT b n D := by
  have hlt := h.lt
  obtain ⟨es, clock, hb, r⟩ := h
  exact ⟨es, clock, (hg.2.2.2.2 b hlt hL).trans hb, r⟩
theorem obj_map_ne {w : World} {b m n : Nat} {D : DataW Unit} {cs : List Value} (h : obj w b T cs) (hm : w.ownsMap P kt RT m n D) : b ≠ m := by
  intro e
  subst e
  obtain ⟨es, clock, hb, _⟩ := hm
  unfold obj at h
  rw [h] at hb
  cases hb
theorem tab.past {w w' : World} {b n : Nat} {F M : List Nat} {L : List (α × Int)} (h : tab P T kt mk lk w b F n L) (hg : turned w w' M) (hM : ∀ k, k ∈ F → k ∉ M) : tab P T kt mk lk w' b F n L := by
  obtain ⟨m, D, turn, es, h1, h2, h3, h4, h5, h6, h7, h8, h9, rfl⟩ := h
  exact ⟨m, D, turn, es, h1.past hg (hM b (by simp)), ownsMap_past h2 hg (hM m (by simp)), h3, h4, h5, h6, h7, h8, h9, rfl⟩
theorem tab.lt {w : World} {b n : Nat} {F : List Nat} {L : List (α × Int)} (h : tab P T kt mk lk w b F n L) : ∀ k, k ∈ F → k < w.heap.size := by
  obtain ⟨m, D, turn, es, h1, h2, h3, h4, h5, h6, h7, h8, h9, rfl⟩ := h
  intro k hk
  simp at hk
  rcases hk with rfl | rfl
  · exact h1.lt
  · exact h2.lt
theorem tab.keys {w : World} {b n : Nat} {F : List Nat} {L : List (α × Int)} (h : tab P T kt mk lk w b F n L) : L.Pairwise (fun a b => a.1 ≠ b.1) := by
  obtain ⟨m, D, turn, es, h1, h2, h3, h4, h5, h6, h7, h8, rfl, _⟩ := h
  rw [List.pairwise_map]
  exact h3.keys
theorem tab.ok {w : World} {b n : Nat} {F : List Nat} {L : List (α × Int)} (h : tab P T kt mk lk w b F n L) {x : α × Int} (hx : x ∈ L) : keyOf P kt (mk x.1) = some (lk x.1) := by
  obtain ⟨m, D, turn, es, h1, h2, h3, h4, h5, h6, h7, h8, rfl, _⟩ := h
  obtain ⟨e, he, rfl⟩ := List.mem_map.1 hx
  exact h8 e he
theorem tab.mono {w : World} {b n n' : Nat} {F : List Nat} {L : List (α × Int)} (h : tab P T kt mk lk w b F n L) (hn : n ≤ n') : tab P T kt mk lk w b F n' L := by
  obtain ⟨m, D, turn, es, h1, h2, h3, h4, h5, h6, h7, h8, h9, rfl⟩ := h
  exact ⟨m, D, turn, es, h1, h2.mono hn, h3, h4, h5, h6, by omega, h8, h9, rfl⟩
theorem key_inj (K : Keyed P kt) (hmk : ∀ x y, mk x = mk y → x = y) {x y : α} (hx : keyOf P kt (mk x) = some (lk x)) (hy : keyOf P kt (mk y) = some (lk y)) (h : lk x = lk y) : x = y :=
  hmk _ _ (K.inj hx (by rw [h]; exact hy))
theorem Agree.same {D : DataW Unit} {es : List (α × Int × Int)} (A : Agree lk D es) {e f : α × Int × Int} (he : e ∈ es) (hf : f ∈ es) (h : e.1 = f.1) : e = f := by
  have := (A.val e he .nil).symm.trans ((by rw [h] : D.atKey (lk e.1) .nil = D.atKey (lk f.1) .nil).trans (A.val f hf .nil))
  exact Prod.ext h (td_inj this)
theorem entry_of {D : DataW Unit} {es : List (α × Int × Int)} (A : Agree lk D es) (K : Keyed P kt) (hmk : ∀ x y, mk x = mk y → x = y) (h8 : ∀ e, e ∈ es → keyOf P kt (mk e.1) = some (lk e.1)) {x : α} {c : Int × Int} {kl : Lit} {y : DataW Unit × List MemPlace}
    (hkey : keyOf P kt (mk x) = some kl) (hhas : Maps.has D kl = true) (hv : RT (tv c) = some y) (hat : ∀ zd, D.atKey kl zd = y.1) : ∃ e, e ∈ es ∧ x = e.1 ∧ c = e.2 ∧ kl = lk e.1 := by
  obtain ⟨e, he, rfl⟩ := (A.has kl).1 hhas
  refine ⟨e, he, hmk _ _ (K.inj hkey (h8 e he)), ?_, rfl⟩
  have h1 := (hat .nil).symm.trans (A.val e he .nil)
  rw [RT_mk] at hv
  obtain rfl := Option.some.inj hv
  exact td_inj h1
def Seen (lk : α → Lit) (es : List (α × Int × Int)) (left : Lit → Bool) (c : α × Int × Int) : Prop :=
  c ∈ es ∧ left (lk c.1) = false ∧ ∀ e, e ∈ es → left (lk e.1) = false → ahd e.2 c.2 = false
theorem ahd_step {x y z : Int × Int} (h : ahd x y = false) (k : ahd z y = true) : ahd x z = false := by
  simp [ahd] at *
  omega
theorem ahd_self (x : Int × Int) : ahd x x = false := by simp [ahd]
theorem off_self {left : Lit → Bool} {kl : Lit} (h : WideAt.IsKeyLit kl) : (left kl && !kl.sameKey kl) = false := by rw [WideAt.sameKey_self h]; simp
theorem off_cases {left : Lit → Bool} {z kl : Lit} (h : (left z && !z.sameKey kl) = false) : left z = false ∨ z = kl := by
  cases hl : left z
  · exact Or.inl rfl
  · rw [hl] at h
    simp only [Bool.true_and, Bool.not_eq_false'] at h
    exact Or.inr (WideAt.sameKey_eq h)
theorem seen_first {D : DataW Unit} {es : List (α × Int × Int)} (A : Agree lk D es) (K : Keyed P kt) (hmk : ∀ x y, mk x = mk y → x = y) (h8 : ∀ e, e ∈ es → keyOf P kt (mk e.1) = some (lk e.1)) {left : Lit → Bool} {e : α × Int × Int}
    (h : ∀ e, e ∈ es → left (lk e.1) = true) (he : e ∈ es) : Seen lk es (fun z => left z && !z.sameKey (lk e.1)) e := by
  refine ⟨he, off_self (K.key (h8 e he)), fun f hf hl => ?_⟩
  rcases off_cases hl with h1 | h1
  · rw [h f hf] at h1; cases h1
  · rw [A.same hf he (key_inj K hmk (h8 f hf) (h8 e he) h1)]
    exact ahd_self _
theorem seen_new {D : DataW Unit} {es : List (α × Int × Int)} (A : Agree lk D es) (K : Keyed P kt) (hmk : ∀ x y, mk x = mk y → x = y) (h8 : ∀ e, e ∈ es → keyOf P kt (mk e.1) = some (lk e.1)) {left : Lit → Bool} {e c : α × Int × Int}
    (h : Seen lk es left c) (he : e ∈ es) (hk : ahd e.2 c.2 = true) : Seen lk es (fun z => left z && !z.sameKey (lk e.1)) e := by
  refine ⟨he, off_self (K.key (h8 e he)), fun f hf hl => ?_⟩
  rcases off_cases hl with h1 | h1
  · exact ahd_step (h.2.2 f hf h1) hk
  · rw [A.same hf he (key_inj K hmk (h8 f hf) (h8 e he) h1)]
    exact ahd_self _
theorem seen_keep {D : DataW Unit} {es : List (α × Int × Int)} (A : Agree lk D es) (K : Keyed P kt) (hmk : ∀ x y, mk x = mk y → x = y) (h8 : ∀ e, e ∈ es → keyOf P kt (mk e.1) = some (lk e.1)) {left : Lit → Bool} {e c : α × Int × Int}
    (h : Seen lk es left c) (he : e ∈ es) (hk : ahd e.2 c.2 = false) : Seen lk es (fun z => left z && !z.sameKey (lk e.1)) c := by
  refine ⟨h.1, by show (left (lk c.1) && _) = false; rw [h.2.1]; rfl, fun f hf hl => ?_⟩
  rcases off_cases hl with h1 | h1
  · exact h.2.2 f hf h1
  · rw [A.same hf he (key_inj K hmk (h8 f hf) (h8 e he) h1)]
    exact hk
end
end Go.Proofs.Ytebdnciehobfaaa
