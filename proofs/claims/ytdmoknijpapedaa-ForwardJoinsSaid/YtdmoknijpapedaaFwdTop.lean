/- The latest number of each stream in a row whose numbers lie near one another, as plain lists. No condition. -/
import Derived.Test.YtdmoknijpapedaaFwdRow
namespace Go.Proofs.Ytdmoknijpapedaa
open Go.RowKit
set_option linter.unusedVariables false
set_option linter.unusedSimpArgs false

def dst (f x : Int) : Int := (x - f) % 65536
theorem dst_nonneg (f x : Int) : 0 ≤ dst f x := by unfold dst; omega
theorem dst_mx {f a b : Int} (ha : dst f a < 16384) (hb : dst f b < 16384) : dst f (mx 65536 a b) = max (dst f a) (dst f b) := by
  unfold dst at *
  unfold mx
  by_cases h : lss 65536 a b = true
  · rw [if_pos h]
    simp [lss] at h
    omega
  · rw [if_neg h]
    have h' : lss 65536 a b = false := by simpa using h
    simp [lss] at h'
    omega
/-- The greatest distance of a stream's numbers; -1: there are none. -/
def topS (f s : Int) : List (Int × Int) → Int
  | [] => -1
  | e :: r => max (if e.1 = s then dst f e.2 else -1) (topS f s r)
def top (f s : Int) : List PD → Int
  | [] => -1
  | x :: r => max (if x.u = false ∧ x.s = s then dst f x.n else -1) (top f s r)
theorem topS_ge (f s : Int) : ∀ M, -1 ≤ topS f s M
  | [] => by simp [topS]
  | e :: r => by have := topS_ge f s r; simp only [topS]; omega
theorem topS_app (f s : Int) (M N : List (Int × Int)) : topS f s (M ++ N) = max (topS f s M) (topS f s N) := by
  induction M with
  | nil => have := topS_ge f s N; simp only [List.nil_append, topS]; omega
  | cons e r ih => rw [List.cons_append, topS, ih, topS]; omega
theorem top_ge (f s : Int) : ∀ X, -1 ≤ top f s X
  | [] => by simp [top]
  | e :: r => by have := top_ge f s r; simp only [top]; omega
theorem top_app (f s : Int) (M N : List PD) : top f s (M ++ N) = max (top f s M) (top f s N) := by
  induction M with
  | nil => have := top_ge f s N; simp only [List.nil_append, top]; omega
  | cons e r ih => rw [List.cons_append, top, ih, top]; omega
theorem topS_put1 {f s s' n : Int} (hn : dst f n < 16384) : ∀ {S : List (Int × Int)}, (∀ e, e ∈ S → dst f e.2 < 16384) → topS f s (put1 s' n S) = max (topS f s S) (if s' = s then dst f n else -1)
  | [], _ => by simp only [put1, topS]; omega
  | x :: r, h => by
    have hx := h x (by simp)
    rw [put1]
    by_cases e : x.1 = s'
    · rw [if_pos e]
      simp only [topS]
      rw [dst_mx hx hn, e]
      have := dst_nonneg f x.2
      have := dst_nonneg f n
      by_cases e2 : s' = s
      · rw [if_pos e2, if_pos e2, if_pos e2]; omega
      · rw [if_neg e2, if_neg e2, if_neg e2]; omega
    · rw [if_neg e]
      simp only [topS]
      rw [topS_put1 hn (fun y hy => h y (by simp [hy]))]
      omega
theorem near_put1 {f s' n : Int} (hn : dst f n < 16384) : ∀ {S : List (Int × Int)}, (∀ e, e ∈ S → dst f e.2 < 16384) → ∀ e, e ∈ put1 s' n S → dst f e.2 < 16384
  | [], _, e, he => by rw [put1, List.mem_singleton] at he; rw [he]; exact hn
  | x :: r, h, e, he => by
    have hx := h x (by simp)
    rw [put1] at he
    split at he
    · rcases List.mem_cons.1 he with rfl | he
      · show dst f (mx 65536 x.2 n) < _
        rw [dst_mx hx hn]; omega
      · exact h e (by simp [he])
    · rcases List.mem_cons.1 he with rfl | he
      · exact hx
      · exact near_put1 hn (fun y hy => h y (by simp [hy])) e he
theorem topS_told (f s : Int) (X : List PD) (h : ∀ x, x ∈ X → dst f x.n < 16384) : topS f s (told X) = top f s X := by
  unfold told
  suffices ∀ S : List (Int × Int), (∀ e, e ∈ S → dst f e.2 < 16384) → topS f s (X.foldl step1 S) = max (topS f s S) (top f s X) by
    rw [this [] (by simp)]; have := top_ge f s X; simp only [topS]; omega
  induction X with
  | nil => intro S _; have := topS_ge f s S; simp only [List.foldl_nil, top]; omega
  | cons x X ih =>
    intro S hS
    have hx := h x (by simp)
    rw [List.foldl_cons]
    by_cases hu : x.u = true
    · rw [show step1 S x = S by simp [step1, hu], ih (fun y hy => h y (by simp [hy])) S hS, top, if_neg (by simp [hu])]
      have := topS_ge f s S
      omega
    · have hu' : x.u = false := by simpa using hu
      rw [show step1 S x = put1 x.s x.n S by simp [step1, hu'], ih (fun y hy => h y (by simp [hy])) _ (near_put1 hx hS), topS_put1 hx hS, top]
      by_cases e : x.s = s
      · rw [if_pos e, if_pos ⟨hu', e⟩]; omega
      · rw [if_neg e, if_neg (fun h => e h.2)]
        have := topS_ge f s S
        omega
theorem topS_mem {f s : Int} : ∀ {M : List (Int × Int)}, 0 ≤ topS f s M → ∃ e, e ∈ M ∧ e.1 = s ∧ dst f e.2 = topS f s M
  | [], h => by simp [topS] at h
  | e :: r, h => by
    simp only [topS] at h ⊢
    by_cases h1 : e.1 = s
    · rw [if_pos h1] at h ⊢
      by_cases h2 : topS f s r ≤ dst f e.2
      · exact ⟨e, by simp, h1, by omega⟩
      · have := dst_nonneg f e.2
        obtain ⟨y, hy, e1, e2⟩ := topS_mem (f := f) (s := s) (M := r) (by omega)
        exact ⟨y, by simp [hy], e1, by omega⟩
    · rw [if_neg h1] at h ⊢
      obtain ⟨y, hy, e1, e2⟩ := topS_mem (f := f) (s := s) (M := r) (by omega)
      exact ⟨y, by simp [hy], e1, by have := topS_ge f s r; omega⟩
theorem topS_none {f s : Int} : ∀ {M : List (Int × Int)}, (∀ e, e ∈ M → e.1 ≠ s) → topS f s M = -1
  | [], _ => rfl
  | e :: r, h => by rw [topS, if_neg (h e (by simp)), topS_none (fun y hy => h y (by simp [hy]))]; rfl
theorem topS_one {f : Int} {M : List (Int × Int)} (hp : M.Pairwise (fun a b => a.1 ≠ b.1)) : ∀ e, e ∈ M → topS f e.1 M = dst f e.2 := by
  induction M with
  | nil => intro e he; cases he
  | cons x r ih =>
    obtain ⟨h1, h2⟩ := List.pairwise_cons.1 hp
    intro e he
    rw [topS]
    rcases List.mem_cons.1 he with rfl | he
    · rw [if_pos rfl, topS_none (fun y hy h => h1 y hy h.symm)]
      have := dst_nonneg f e.2
      omega
    · rw [if_neg (h1 e he), ih h2 e he]
      have := dst_nonneg f e.2
      omega
theorem top_of_mem {f : Int} {x : PD} : ∀ {X : List PD}, x ∈ X → x.u = false → dst f x.n ≤ top f x.s X
  | [], h, _ => by cases h
  | y :: r, h, hu => by
    rw [top]
    rcases List.mem_cons.1 h with rfl | h
    · rw [if_pos ⟨hu, rfl⟩]; omega
    · have := top_of_mem h hu (f := f); omega
theorem told_from (X : List PD) : ∀ e, e ∈ told X → ∃ x, x ∈ X ∧ x.u = false ∧ x.s = e.1 ∧ x.n = e.2 := by
  unfold told
  suffices ∀ (Y : List PD) (S : List (Int × Int)), (∀ e, e ∈ S → ∃ x, x ∈ Y ++ X ∧ x.u = false ∧ x.s = e.1 ∧ x.n = e.2) → ∀ e, e ∈ X.foldl step1 S → ∃ x, x ∈ Y ++ X ∧ x.u = false ∧ x.s = e.1 ∧ x.n = e.2 from
    fun e he => by simpa using this [] [] (by simp) e he
  induction X with
  | nil => exact fun Y S h => h
  | cons x X ih =>
    intro Y S hS
    have := ih (Y ++ [x]) (step1 S x) (fun e he => by
      unfold step1 at he
      split at he
      · obtain ⟨z, hz, r⟩ := hS e he; exact ⟨z, by simpa using hz, r⟩
      · rename_i hu
        have hu' : x.u = false := by simpa using hu
        suffices ∀ S : List (Int × Int), (∀ e, e ∈ S → ∃ z, z ∈ Y ++ x :: X ∧ z.u = false ∧ z.s = e.1 ∧ z.n = e.2) → e ∈ put1 x.s x.n S → ∃ z, z ∈ Y ++ x :: X ∧ z.u = false ∧ z.s = e.1 ∧ z.n = e.2 by
          obtain ⟨z, hz, r⟩ := this S hS he; exact ⟨z, by simpa using hz, r⟩
        clear he hS ih
        intro S
        induction S with
        | nil => intro _ he; rw [put1, List.mem_singleton] at he; subst he; exact ⟨x, by simp, hu', rfl, rfl⟩
        | cons y r ihr =>
          intro h he
          rw [put1] at he
          split at he
          · rename_i hy
            rcases List.mem_cons.1 he with rfl | he
            · rcases mx_cases 65536 y.2 x.n with e1 | e1
              · obtain ⟨z, hz, z1, z2, z3⟩ := h y (by simp)
                exact ⟨z, hz, z1, z2.trans hy, z3.trans e1.symm⟩
              · exact ⟨x, by simp, hu', rfl, e1.symm⟩
            · exact h e (by simp [he])
          · rcases List.mem_cons.1 he with rfl | he
            · exact h e (by simp)
            · exact ihr (fun z hz => h z (by simp [hz])) he)
    intro e he
    obtain ⟨z, hz, r⟩ := this e he
    exact ⟨z, by simpa using hz, r⟩

/-- The row that a law makes. -/
def seqN (cum first : Int) (i : Nat) (x : PD) : PD := { x with t := (cum + 1 + (i : Int)) % 4294967296, n := (first + x.n % 16384) % 65536 }
theorem seqN_ok (cum first : Int) : ∀ i x, PD.ok x → (seqN cum first i x).ok := fun i x h =>
  ⟨show 0 ≤ (cum + 1 + (i : Int)) % 4294967296 by omega, show (cum + 1 + (i : Int)) % 4294967296 < 4294967296 by omega, h.s0, h.s1, show 0 ≤ (first + x.n % 16384) % 65536 by omega, show (first + x.n % 16384) % 65536 < 65536 by omega⟩
def rowN (cum first : Int) (X : List PD) : List PD := mapTo (seqN cum first) X.length X
theorem rowN_len (cum first : Int) (X : List PD) : (rowN cum first X).length = X.length := mapTo_len _ _ _
theorem rowN_at (cum first : Int) (X : List PD) (i : Nat) (h : i < X.length) : (rowN cum first X)[i]'(by rw [rowN_len]; exact h) = seqN cum first i (X[i]'h) := by
  have := mapTo_at (seqN cum first) X.length X i h
  rw [if_pos h] at this
  exact this
theorem rowN_ok {cum first : Int} {X : List PD} (h : ∀ x, x ∈ X → x.ok) : ∀ x, x ∈ rowN cum first X → x.ok := mapTo_ok _ (seqN_ok cum first) h
theorem rowN_near {cum first : Int} {X : List PD} : ∀ x, x ∈ rowN cum first X → dst first x.n < 16384 := by
  intro x hx
  obtain ⟨i, hi, rfl⟩ := List.getElem_of_mem hx
  have hi' : i < X.length := by rw [rowN_len] at hi; exact hi
  rw [rowN_at cum first X i hi']
  show ((first + (X[i]'hi').n % 16384) % 65536 - first) % 65536 < 16384
  omega
theorem rowN_t {cum first : Int} {X : List PD} (i : Nat) (h : i < (rowN cum first X).length) : ((rowN cum first X)[i]'h).t = (cum + 1 + (i : Int)) % 4294967296 := by
  rw [rowN_at cum first X i (by rw [rowN_len] at h; exact h)]; rfl
theorem rowN_row {cum first : Int} {X : List PD} (h : 0 < X.length) : isRow cum (rowN cum first X) :=
  ⟨fun e => by have := rowN_len cum first X; rw [e] at this; simp at this; omega, fun i hi => rowN_t i hi⟩
theorem rowN_last {cum first : Int} {X : List PD} (h : 0 < X.length) : lastT (rowN cum first X) = (cum + (X.length : Int)) % 4294967296 := by
  rw [lastT_at _ (by rw [rowN_len]; exact h), rowN_t, rowN_len]
  congr 1
  omega
end Go.Proofs.Ytdmoknijpapedaa
