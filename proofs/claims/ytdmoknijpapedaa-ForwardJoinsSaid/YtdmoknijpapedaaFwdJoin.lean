/- A row in two parts: what is told of the parts and of the whole, as plain lists. No condition. -/
import Derived.Test.YtdmoknijpapedaaFwdCovers
namespace Go.Proofs.Ytdmoknijpapedaa
open Go.RowKit
set_option linter.unusedVariables false
set_option linter.unusedSimpArgs false
set_option linter.unusedSectionVars false

def hkey (t : Int) (S : List (Int × Int)) : Prop := ∃ e, e ∈ S ∧ e.1 = t
theorem hkey_put1 {t s n : Int} {S : List (Int × Int)} : hkey t (put1 s n S) ↔ hkey t S ∨ s = t := by
  induction S with
  | nil => simp [hkey, put1]
  | cons x r ih =>
    rw [put1]
    split
    · rename_i e
      constructor
      · rintro ⟨y, hy, rfl⟩
        rcases List.mem_cons.1 hy with rfl | hy
        · exact Or.inr rfl
        · exact Or.inl ⟨y, by simp [hy], rfl⟩
      · rintro (⟨y, hy, rfl⟩ | rfl)
        · rcases List.mem_cons.1 hy with rfl | hy
          · exact ⟨_, List.mem_cons_self .., e.symm⟩
          · exact ⟨y, by simp [hy], rfl⟩
        · exact ⟨_, List.mem_cons_self .., rfl⟩
    · constructor
      · rintro ⟨y, hy, rfl⟩
        rcases List.mem_cons.1 hy with rfl | hy
        · exact Or.inl ⟨y, by simp, rfl⟩
        · rcases ih.1 ⟨y, hy, rfl⟩ with ⟨z, hz, e⟩ | e
          · exact Or.inl ⟨z, by simp [hz], e⟩
          · exact Or.inr e
      · rintro (⟨y, hy, rfl⟩ | rfl)
        · rcases List.mem_cons.1 hy with rfl | hy
          · exact ⟨y, by simp, rfl⟩
          · obtain ⟨z, hz, e⟩ := ih.2 (Or.inl ⟨y, hy, rfl⟩)
            exact ⟨z, by simp [hz], e⟩
        · obtain ⟨z, hz, e⟩ := ih.2 (Or.inr rfl)
          exact ⟨z, by simp [hz], e⟩
theorem put1_len_there {s n : Int} : ∀ {S : List (Int × Int)}, hkey s S → (put1 s n S).length = S.length
  | [], h => by obtain ⟨e, h, _⟩ := h; cases h
  | x :: r, h => by
    rw [put1]
    split
    · rfl
    · rename_i e
      have : hkey s r := by
        obtain ⟨y, hy, e1⟩ := h
        rcases List.mem_cons.1 hy with rfl | hy
        · exact absurd e1 e
        · exact ⟨y, hy, e1⟩
      rw [List.length_cons, put1_len_there this, List.length_cons]
theorem fold_len : ∀ (B : List PD) (S T : List (Int × Int)), (∀ t, hkey t T → hkey t S) → (B.foldl step1 S).length + T.length ≤ S.length + (B.foldl step1 T).length
  | [], S, T, _ => by simp
  | x :: B, S, T, h => by
    rw [List.foldl_cons, List.foldl_cons]
    by_cases hu : x.u = true
    · rw [show step1 S x = S by simp [step1, hu], show step1 T x = T by simp [step1, hu]]
      exact fold_len B S T h
    · rw [show step1 S x = put1 x.s x.n S by simp [step1, hu], show step1 T x = put1 x.s x.n T by simp [step1, hu]]
      have ih := fold_len B (put1 x.s x.n S) (put1 x.s x.n T) (fun t ht => hkey_put1.2 ((hkey_put1.1 ht).imp (h t) id))
      by_cases hk : hkey x.s T
      · rw [put1_len_there (h _ hk), put1_len_there hk] at ih
        exact ih
      · have e : (put1 x.s x.n T).length = T.length + 1 := by rw [put1_no (fun y hy e => hk ⟨y, hy, e⟩)]; simp
        have := put1_len (s := x.s) (n := x.n) S
        omega
theorem told_app_len (A B : List PD) : (told (A ++ B)).length ≤ (told A).length + (told B).length := by
  have := fold_len B (told A) [] (fun t ⟨e, he, _⟩ => by cases he)
  unfold told at *
  rw [List.foldl_append]
  simpa using this
theorem joined {f : Int} {A B : List PD} (h : ∀ x, x ∈ A ++ B → dst f x.n < 16384) : ∀ e, e ∈ told (A ++ B) → topS f e.1 (told A ++ told B) = dst f e.2 := by
  intro e he
  rw [topS_app, topS_told f e.1 A (fun x hx => h x (by simp [hx])), topS_told f e.1 B (fun x hx => h x (by simp [hx])), ← top_app, ← topS_told f e.1 (A ++ B) h]
  exact topS_one (told_keys _) e he
theorem topS_take (f s : Int) (M : List (Int × Int)) (j : Nat) (h : j < M.length) : topS f s (M.take (j + 1)) = max (topS f s (M.take j)) (if (M[j]'h).1 = s then dst f (M[j]'h).2 else -1) := by
  rw [List.take_succ_eq_append_getElem h, topS_app]
  have := topS_ge f s (M.take j)
  have := dst_nonneg f (M[j]'h).2
  simp only [topS]
  split <;> omega

/-! the parts of a row -/
section
variable {cum : Int} {Z : List PD} (hc : 0 ≤ cum ∧ cum < 4294967296) (ht : ∀ i (h : i < Z.length), (Z[i]'h).t = (cum + 1 + (i : Int)) % 4294967296) {k : Nat} (hk0 : 0 < k) (hk : k < Z.length)
include ht hk0 hk
theorem part_take : isRow cum (Z.take k) := by
  refine ⟨fun e => ?_, fun i h => ?_⟩
  · have : (Z.take k).length = 0 := by rw [e]; rfl
    rw [List.length_take] at this; omega
  · rw [List.getElem_take]; exact ht i _
theorem part_drop : isRow ((cum + (k : Int)) % 4294967296) (Z.drop k) := by
  refine ⟨fun e => ?_, fun i h => ?_⟩
  · have : (Z.drop k).length = 0 := by rw [e]; rfl
    rw [List.length_drop] at this; omega
  · rw [List.getElem_drop, ht]
    omega
theorem last_take : lastT (Z.take k) = (cum + (k : Int)) % 4294967296 := by
  have hl : (Z.take k).length = k := by rw [List.length_take]; omega
  rw [lastT_at _ (by omega), List.getElem_take, ht]
  congr 1
  omega
theorem last_drop : lastT (Z.drop k) = (cum + (Z.length : Int)) % 4294967296 := by
  have hl : (Z.drop k).length = Z.length - k := by rw [List.length_drop]
  rw [lastT_at _ (by omega), List.getElem_drop, ht]
  congr 1
  omega
end
theorem last_all {cum : Int} {Z : List PD} (ht : ∀ i (h : i < Z.length), (Z[i]'h).t = (cum + 1 + (i : Int)) % 4294967296) (h : 0 < Z.length) : lastT Z = (cum + (Z.length : Int)) % 4294967296 := by
  rw [lastT_at _ h, ht]
  congr 1
  omega
theorem Lies.drop {w : World} {sz n cap b off : Nat} {xs : List Value} (h : Lies w sz (.slice (some ⟨b, off, none⟩) n cap) n xs) {k : Nat} (hk : k < n) : Lies w sz (.slice (some ⟨b, off + k * sz, none⟩) (n - k) (cap - k)) (n - k) (xs.drop (k * sz)) := by
  obtain ⟨h0, a', cap', e, h1, h2, h3⟩ := h
  cases e
  refine ⟨by rw [List.length_drop, h0, Nat.sub_mul], _, cap - k, rfl, by omega, by omega, fun hp => ?_⟩
  obtain ⟨b', off', e, hb, hc⟩ := h3 (by omega)
  cases e
  refine ⟨b, off + k * sz, rfl, hb, fun j u hu => ?_⟩
  rw [List.getElem?_drop] at hu
  have := hc _ u hu
  rw [← Nat.add_assoc] at this
  exact this
theorem liesD_take {w : World} {a : Option Addr} {n cap : Nat} {Z : List PD} (h : LiesD w (.slice a n cap) Z) (hn : n = Z.length) {k : Nat} (hk : k ≤ n) : LiesD w (.slice a k cap) (Z.take k) := by
  subst hn
  refine ⟨?_, fun x hx => h.2 x (List.mem_of_mem_take hx)⟩
  have := h.1.cut hk
  rw [List.length_take, Nat.min_eq_left hk, flat_take cPD_len]
  exact this
theorem liesD_drop {w : World} {b off n cap : Nat} {Z : List PD} (h : LiesD w (.slice (some ⟨b, off, none⟩) n cap) Z) (hn : n = Z.length) {k : Nat} (hk : k < n) : LiesD w (.slice (some ⟨b, off + k * 7, none⟩) (n - k) (cap - k)) (Z.drop k) := by
  subst hn
  refine ⟨?_, fun x hx => h.2 x (List.mem_of_mem_drop hx)⟩
  have := h.1.drop hk
  rw [List.length_drop, flat_drop cPD_len]
  exact this
end Go.Proofs.Ytdmoknijpapedaa
