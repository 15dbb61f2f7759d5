/- What is told of a row of pieces, as plain lists: the document's step and what follows of it. No condition. -/
import Derived.Test.YtdmoknijpapedaaSlc
import Derived.Test.YtdmoknijpapedaaFns
import Derived.Maps.OwnSet
import Derived.Maps.Views
namespace Go.Proofs.Ytdmoknijpapedaa
open Go.RowKit Go.Maps
set_option linter.unusedVariables false
set_option linter.unusedSimpArgs false

structure PD where
  (t s n : Int) (u f l : Bool) (ba : Option Addr) (bn bc : Nat)
def cPD (x : PD) : List Value := [.int .u32 x.t, .int .u16 x.s, .int .u16 x.n, .bool x.u, .bool x.f, .bool x.l, .slice x.ba x.bn x.bc]
structure PD.ok (x : PD) : Prop where
  t0 : 0 ≤ x.t
  t1 : x.t < 4294967296
  s0 : 0 ≤ x.s
  s1 : x.s < 65536
  n0 : 0 ≤ x.n
  n1 : x.n < 65536
theorem cPD_len (x : PD) : (cPD x).length = 7 := rfl
def cSk (x : Int × Int) : List Value := [.int .u16 x.1, .int .u16 x.2]
theorem cSk_len (x : Int × Int) : (cSk x).length = 2 := rfl
theorem cSk_one (x : Int × Int) : ∀ u, u ∈ cSk x → u.oneCell' = true := by
  intro u hu
  simp [cSk] at hu
  rcases hu with rfl | rfl <;> rfl
theorem cPD_one (x : PD) : ∀ u, u ∈ cPD x → u.oneCell' = true := by
  intro u hu
  simp [cPD] at hu
  rcases hu with rfl | rfl | rfl | rfl | rfl | rfl | rfl
  all_goals rfl
theorem flatPD_one (X : List PD) : ∀ u, u ∈ flat cPD X → u.oneCell' = true := flat_one cPD_one X

def put1 (s n : Int) : List (Int × Int) → List (Int × Int)
  | [] => [(s, n)]
  | x :: r => if x.1 = s then (s, mx 65536 x.2 n) :: r else x :: put1 s n r
def step1 (S : List (Int × Int)) (x : PD) : List (Int × Int) := if x.u = true then S else put1 x.s x.n S
def told (X : List PD) : List (Int × Int) := X.foldl step1 []
theorem told_snoc (X : List PD) (x : PD) : told (X ++ [x]) = step1 (told X) x := by simp [told]
theorem told_take (X : List PD) (j : Nat) (h : j < X.length) : told (X.take (j + 1)) = step1 (told (X.take j)) (X[j]'h) := by
  rw [List.take_succ_eq_append_getElem h, told_snoc]
theorem put1_no {s n : Int} : ∀ {S : List (Int × Int)}, (∀ x, x ∈ S → x.1 ≠ s) → put1 s n S = S ++ [(s, n)]
  | [], _ => rfl
  | x :: r, h => by rw [put1, if_neg (h x (by simp)), put1_no (fun y hy => h y (by simp [hy]))]; rfl
theorem put1_at {s n : Int} : ∀ {S : List (Int × Int)} (k : Nat) (hk : k < S.length), (S[k]'hk).1 = s → (∀ j (hj : j < S.length), j < k → (S[j]'hj).1 ≠ s) → put1 s n S = S.set k (s, mx 65536 (S[k]'hk).2 n)
  | [], k, hk, _, _ => absurd hk (Nat.not_lt_zero k)
  | x :: r, 0, hk, h, _ => by rw [put1, if_pos (show x.1 = s from h)]; rfl
  | x :: r, k + 1, hk, h, hn => by
    rw [put1, if_neg (show ¬ x.1 = s from hn 0 (by simp) (by omega)), put1_at (S := r) k (by simpa using hk) h (fun j hj hlt => by have := hn (j + 1) (by simpa using hj) (by omega); exact this)]
    rfl
theorem put1_mem {s n : Int} {x : Int × Int} : ∀ {S : List (Int × Int)}, x ∈ put1 s n S → x.1 = s ∨ x ∈ S
  | [], h => by rw [put1, List.mem_singleton] at h; rw [h]; exact Or.inl rfl
  | y :: r, h => by
    rw [put1] at h
    split at h
    · rcases List.mem_cons.1 h with rfl | h
      · exact Or.inl rfl
      · exact Or.inr (by simp [h])
    · rcases List.mem_cons.1 h with rfl | h
      · exact Or.inr (by simp)
      · exact (put1_mem h).imp id (fun h => by simp [h])
theorem put1_keys {s n : Int} : ∀ {S : List (Int × Int)}, S.Pairwise (fun a b => a.1 ≠ b.1) → (put1 s n S).Pairwise (fun a b => a.1 ≠ b.1)
  | [], _ => by simp [put1]
  | x :: r, h => by
    obtain ⟨h1, h2⟩ := List.pairwise_cons.1 h
    rw [put1]
    split
    · rename_i e
      exact List.pairwise_cons.2 ⟨fun y hy => by rw [← e]; exact h1 y hy, h2⟩
    · rename_i e
      refine List.pairwise_cons.2 ⟨fun y hy => ?_, put1_keys h2⟩
      rcases put1_mem hy with e1 | hy
      · rw [e1]; exact e
      · exact h1 y hy
theorem told_keys (X : List PD) : (told X).Pairwise (fun a b => a.1 ≠ b.1) := by
  unfold told
  suffices ∀ S : List (Int × Int), S.Pairwise (fun a b => a.1 ≠ b.1) → (X.foldl step1 S).Pairwise (fun a b => a.1 ≠ b.1) from this [] (by simp)
  induction X with
  | nil => exact fun S h => h
  | cons x X ih =>
    intro S h
    refine ih _ ?_
    unfold step1
    split
    · exact h
    · exact put1_keys h
theorem put1_len {s n : Int} : ∀ (S : List (Int × Int)), (put1 s n S).length ≤ S.length + 1
  | [] => by simp [put1]
  | x :: r => by
    rw [put1]
    split
    · simp
    · have := put1_len (s := s) (n := n) r; simpa using this
theorem told_len (X : List PD) : (told X).length ≤ X.length := by
  unfold told
  suffices ∀ S : List (Int × Int), (X.foldl step1 S).length ≤ S.length + X.length by simpa using this []
  induction X with
  | nil => intro S; simp
  | cons x X ih =>
    intro S
    refine Nat.le_trans (ih _) ?_
    unfold step1
    split
    · simp
    · have := put1_len (s := x.s) (n := x.n) S; rw [List.length_cons]; omega

/-! ## ranges -/
def skOk (x : Int × Int) : Prop := 0 ≤ x.1 ∧ x.1 < 65536 ∧ 0 ≤ x.2 ∧ x.2 < 65536
theorem mx_cases (m a b : Int) : mx m a b = a ∨ mx m a b = b := by unfold mx; split <;> simp
theorem put1_ok {s n : Int} (h1 : 0 ≤ s ∧ s < 65536) (h2 : 0 ≤ n ∧ n < 65536) : ∀ {S : List (Int × Int)}, (∀ x, x ∈ S → skOk x) → ∀ x, x ∈ put1 s n S → skOk x
  | [], _, x, hx => by rw [put1, List.mem_singleton] at hx; rw [hx]; exact ⟨h1.1, h1.2, h2.1, h2.2⟩
  | y :: r, h, x, hx => by
    rw [put1] at hx
    have hy := h y (by simp)
    split at hx
    · rcases List.mem_cons.1 hx with rfl | hx
      · refine ⟨h1.1, h1.2, ?_⟩
        rcases mx_cases 65536 y.2 n with e | e
        · show 0 ≤ mx _ _ _ ∧ mx _ _ _ < _; rw [e]; exact hy.2.2
        · show 0 ≤ mx _ _ _ ∧ mx _ _ _ < _; rw [e]; exact h2
      · exact h x (by simp [hx])
    · rcases List.mem_cons.1 hx with rfl | hx
      · exact hy
      · exact put1_ok h1 h2 (fun z hz => h z (by simp [hz])) x hx
theorem told_ok (X : List PD) (h : ∀ x, x ∈ X → x.ok) : ∀ x, x ∈ told X → skOk x := by
  unfold told
  suffices ∀ S : List (Int × Int), (∀ x, x ∈ S → skOk x) → ∀ x, x ∈ X.foldl step1 S → skOk x from this [] (by simp)
  induction X with
  | nil => exact fun S h => h
  | cons y X ih =>
    intro S hS
    refine ih (fun x hx => h x (by simp [hx])) _ ?_
    unfold step1
    split
    · exact hS
    · have := h y (by simp)
      exact put1_ok ⟨this.s0, this.s1⟩ ⟨this.n0, this.n1⟩ hS

/-! ## where a stream stands -/
/-- The map of the program: from a stream to its place. -/
structure At (D : DataW Unit) (S : List (Int × Int)) : Prop where
  tidy : Tidy D
  has : ∀ x : Int, Maps.has D (.int .u16 x) = true ↔ ∃ e, e ∈ S ∧ e.1 = x
  val : ∀ i (h : i < S.length), ∀ z, D.atKey (.int .u16 (S[i]'h).1) z = .lit (.int .i64 (i : Int))
theorem At.empty : At (.map []) [] := ⟨tidy_empty, fun x => by simp [Maps.has], fun i h => absurd h (Nat.not_lt_zero i)⟩
theorem At.put {D : DataW Unit} {S : List (Int × Int)} (A : At D S) (s n : Int) (hs : ∀ e, e ∈ S → e.1 ≠ s) (hkey : WideAt.IsKeyLit (.int .u16 s)) :
    At (D.put (.int .u16 s) (.lit (.int .i64 (S.length : Int)))) (S ++ [(s, n)]) := by
  have hm := A.tidy.isMap
  refine ⟨A.tidy.put hkey _, fun x => ?_, fun i h z => ?_⟩
  · by_cases h : x = s
    · subst h
      rw [has_put_same hm hkey]
      exact ⟨fun _ => ⟨(x, n), by simp, rfl⟩, fun _ => rfl⟩
    · rw [has_put_other (fun e => h (by injection e)), A.has x]
      constructor
      · rintro ⟨e, he, rfl⟩; exact ⟨e, by simp [he], rfl⟩
      · rintro ⟨e, he, rfl⟩
        rcases List.mem_append.1 he with he | he
        · exact ⟨e, he, rfl⟩
        · rw [List.mem_singleton] at he; subst he; exact absurd rfl h
  · by_cases hi : i < S.length
    · rw [List.getElem_append_left hi, atKey_put_other (fun e => hs _ (List.getElem_mem hi) (by injection e)), A.val i hi z]
    · have : i = S.length := by rw [List.length_append] at h; simp at h; omega
      subst this
      rw [List.getElem_append_right (Nat.le_refl _)]
      simp only [Nat.sub_self, List.getElem_cons_zero]
      exact atKey_put_same hm hkey _ _
theorem At.set {D : DataW Unit} {S : List (Int × Int)} (A : At D S) (k : Nat) (hk : k < S.length) (n : Int) : At D (S.set k ((S[k]'hk).1, n)) := by
  have hkeys : (S.set k ((S[k]'hk).1, n)).map Prod.fst = S.map Prod.fst := by
    rw [List.map_set]
    apply List.ext_getElem
    · simp
    · intro i h1 h2
      by_cases e : i = k
      · subst e; simp
      · rw [List.getElem_set_ne (fun h => e h.symm)]
  refine ⟨A.tidy, fun x => (A.has x).trans ?_, fun i h z => ?_⟩
  · have h1 : ∀ M : List (Int × Int), (∃ e, e ∈ M ∧ e.1 = x) ↔ x ∈ M.map Prod.fst := fun M => List.mem_map.symm
    rw [h1, h1, hkeys]
  · have hi : i < S.length := by simpa using h
    have : ((S.set k ((S[k]'hk).1, n))[i]'h).1 = (S[i]'hi).1 := by
      by_cases e : i = k
      · subst e; simp
      · rw [List.getElem_set_ne (fun h => e h.symm)]
    rw [this]
    exact A.val i hi z
theorem key_at {S : List (Int × Int)} (hp : S.Pairwise (fun a b => a.1 ≠ b.1)) {i j : Nat} (hi : i < S.length) (hj : j < S.length) (h : (S[i]'hi).1 = (S[j]'hj).1) : i = j := by
  rcases Nat.lt_trichotomy i j with hlt | e | hlt
  · exact absurd h (List.pairwise_iff_getElem.1 hp i j hi hj hlt)
  · exact e
  · exact absurd h.symm (List.pairwise_iff_getElem.1 hp j i hj hi hlt)
theorem put1_there {S : List (Int × Int)} (hp : S.Pairwise (fun a b => a.1 ≠ b.1)) (k : Nat) (hk : k < S.length) {s : Int} (h : (S[k]'hk).1 = s) (n : Int) : put1 s n S = S.set k (s, mx 65536 (S[k]'hk).2 n) :=
  put1_at k hk h (fun j hj hlt e => by have := key_at hp hj hk (e.trans h.symm); omega)

/-- Is it a row behind cum? -/
def isRow (cum : Int) (X : List PD) : Prop := X ≠ [] ∧ ∀ i (h : i < X.length), (X[i]'h).t = (cum + 1 + (i : Int)) % 4294967296
def lastT (X : List PD) : Int := match X.getLast? with | some x => x.t | none => 0
theorem lastT_at (X : List PD) (h : 0 < X.length) : lastT X = (X[X.length - 1]'(by omega)).t := by
  unfold lastT
  rw [List.getLast?_eq_getElem?, List.getElem?_eq_getElem (by omega)]
end Go.Proofs.Ytdmoknijpapedaa
