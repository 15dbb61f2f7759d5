/- Three tables of a law's own: of numbers, of texts, of pairs. Conditions: they lie in memory, apart, in new blocks. -/
import Derived.Test.YtebdnciehobfaaaTimHeldI
import Derived.Test.YtebdnciehobfaaaTimHeldS
import Derived.Test.YtebdnciehobfaaaTimHeldK
namespace Go.Proofs.Ytebdnciehobfaaa
open Go.RowKit Go.Maps
set_option linter.unusedVariables false
set_option linter.unusedSimpArgs false
set_option linter.unusedSectionVars false

/-- Other objects stay. -/
def keepsO (w w' : World) : Prop := ∀ (kk : Nat) (t : TypeId) (cs : List Value), t ≠ 74 → t ≠ 89 → t ≠ 92 → obj w kk t cs → obj w' kk t cs
theorem keepsO_none {w w' : World} (t : turned w w' []) : keepsO w w' := fun kk ty cs _ _ _ h => h.past t (by simp)
theorem tab_apart {α : Type} [DecidableEq α] {lk : α → Lit} {P : Program} {T kt : TypeId} {mk : α → Value} {w : World} {b n : Nat} {F : List Nat} {L : List (α × Int)} (h : tab P T kt mk lk w b F n L) {kk : Nat} {t : TypeId} {cs : List Value} (k : obj w kk t cs) (hne : t ≠ T) : kk ∉ F := by
  obtain ⟨m, D, turn, es, h1, h2, h3, h4, h5, h6, h7, h8, h9, rfl⟩ := h
  intro e
  simp at e
  rcases e with rfl | rfl
  · exact k.ne h1 hne rfl
  · exact obj_map_ne k h2 rfl

def tri (W w : World) (a b c n m l : Nat) (L : List (Int × Int)) (M : List (ByteArray × Int)) (N : List ((Int × Int) × Int)) : Prop :=
  ∃ F G E, tabI w a F n L ∧ tabS w b G m M ∧ tabK w c E l N ∧ (∀ k, k ∈ F → W.heap.size ≤ k ∧ k ∉ G ∧ k ∉ E) ∧ (∀ k, k ∈ G → W.heap.size ≤ k ∧ k ∉ F ∧ k ∉ E) ∧ (∀ k, k ∈ E → W.heap.size ≤ k ∧ k ∉ F ∧ k ∉ G) ∧ Below W.heap.size W w
section
variable {W w : World} {a b c n m l : Nat} {L : List (Int × Int)} {M : List (ByteArray × Int)} {N : List ((Int × Int) × Int)}
theorem tri.below (h : tri W w a b c n m l L M N) : Below W.heap.size W w := by obtain ⟨F, G, E, _, _, _, _, _, _, h⟩ := h; exact h
theorem tri.stay {w' : World} (h : tri W w a b c n m l L M N) (t : turned w w' []) : tri W w' a b c n m l L M N := by
  obtain ⟨F, G, E, h1, h2, h3, h4, h5, h6, h7⟩ := h
  exact ⟨F, G, E, h1.past t (by simp), h2.past t (by simp), h3.past t (by simp), h4, h5, h6, below_turned h7 t (by simp)⟩
theorem tri.val {L' : List (Int × Int)} {M' : List (ByteArray × Int)} {N' : List ((Int × Int) × Int)} {n' m' l' : Nat} (h : tri W w a b c n m l L M N) (e1 : L = L') (e2 : M = M') (e3 : N = N') (k1 : n ≤ n') (k2 : m ≤ m') (k3 : l ≤ l') : tri W w a b c n' m' l' L' M' N' := by
  subst e1 e2 e3
  obtain ⟨F, G, E, h1, h2, h3, r⟩ := h
  exact ⟨F, G, E, h1.mono k1, h2.mono k2, h3.mono k3, r⟩
theorem tri.one {w' : World} {F G E : List Nat} {n' : Nat} {L' : List (Int × Int)} (h2 : tabS w b G m M) (h3 : tabK w c E l N) (h4 : ∀ k, k ∈ F → W.heap.size ≤ k ∧ k ∉ G ∧ k ∉ E) (h5 : ∀ k, k ∈ G → W.heap.size ≤ k ∧ k ∉ F ∧ k ∉ E) (h6 : ∀ k, k ∈ E → W.heap.size ≤ k ∧ k ∉ F ∧ k ∉ G) (h7 : Below W.heap.size W w)
    (r : tabI w' a F n' L') (t : turned w w' F) : tri W w' a b c n' m l L' M N :=
  ⟨F, G, E, r, h2.past t (fun k hk => (h5 k hk).2.1), h3.past t (fun k hk => (h6 k hk).2.1), h4, h5, h6, below_turned h7 t (fun k hk => (h4 k hk).1)⟩
theorem tri.two_ {w' : World} {F G E : List Nat} {m' : Nat} {M' : List (ByteArray × Int)} (h1 : tabI w a F n L) (h3 : tabK w c E l N) (h4 : ∀ k, k ∈ F → W.heap.size ≤ k ∧ k ∉ G ∧ k ∉ E) (h5 : ∀ k, k ∈ G → W.heap.size ≤ k ∧ k ∉ F ∧ k ∉ E) (h6 : ∀ k, k ∈ E → W.heap.size ≤ k ∧ k ∉ F ∧ k ∉ G) (h7 : Below W.heap.size W w)
    (r : tabS w' b G m' M') (t : turned w w' G) : tri W w' a b c n m' l L M' N :=
  ⟨F, G, E, h1.past t (fun k hk => (h4 k hk).2.1), r, h3.past t (fun k hk => (h6 k hk).2.2), h4, h5, h6, below_turned h7 t (fun k hk => (h5 k hk).1)⟩
theorem tri.three {w' : World} {F G E : List Nat} {l' : Nat} {N' : List ((Int × Int) × Int)} (h1 : tabI w a F n L) (h2 : tabS w b G m M) (h4 : ∀ k, k ∈ F → W.heap.size ≤ k ∧ k ∉ G ∧ k ∉ E) (h5 : ∀ k, k ∈ G → W.heap.size ≤ k ∧ k ∉ F ∧ k ∉ E) (h6 : ∀ k, k ∈ E → W.heap.size ≤ k ∧ k ∉ F ∧ k ∉ G) (h7 : Below W.heap.size W w)
    (r : tabK w' c E l' N') (t : turned w w' E) : tri W w' a b c n m l' L M N' :=
  ⟨F, G, E, h1.past t (fun k hk => (h4 k hk).2.2), h2.past t (fun k hk => (h5 k hk).2.2), r, h4, h5, h6, below_turned h7 t (fun k hk => (h6 k hk).1)⟩
theorem tri_new (hw : Below W.heap.size W w) {F G : List Nat} (h1 : tabI w a F n L) (h2 : tabS w b G m M) (h4 : ∀ k, k ∈ F → W.heap.size ≤ k ∧ k ∉ G) (h5 : ∀ k, k ∈ G → W.heap.size ≤ k ∧ k ∉ F) :
    Calls Try.prog 27 #[] w fun e w' => e = .returned (.pointer (some ⟨w.heap.size + 1, 0, none⟩)) ∧ tri W w' a b (w.heap.size + 1) n m 0 L M [] ∧ turned w w' [] := by
  have l1 := h1.lt
  have l2 := h2.lt
  have hs := hw.size
  refine (tnewK w).mono ?_
  rintro e w' ⟨rfl, r, g⟩
  have t := turned_none g (L := [])
  refine ⟨rfl, ⟨F, G, _, h1.past t (by simp), h2.past t (by simp), r, fun k hk => ⟨(h4 k hk).1, (h4 k hk).2, fun e => ?_⟩, fun k hk => ⟨(h5 k hk).1, (h5 k hk).2, fun e => ?_⟩, fun k hk => ⟨?_, fun e => ?_, fun e => ?_⟩, below_none hw g⟩, t⟩
  · have := l1 k hk; simp at e; omega
  · have := l2 k hk; simp at e; omega
  · simp at hk; omega
  · have := l1 k e; simp at hk; omega
  · have := l2 k e; simp at hk; omega
theorem duo_new (h : heldI W w a n L) :
    Calls Try.prog 26 #[] w fun e w' => e = .returned (.pointer (some ⟨w.heap.size + 1, 0, none⟩)) ∧ ∃ F G, tabI w' a F n L ∧ tabS w' (w.heap.size + 1) G 0 [] ∧ (∀ k, k ∈ F → W.heap.size ≤ k ∧ k ∉ G) ∧ (∀ k, k ∈ G → W.heap.size ≤ k ∧ k ∉ F) ∧ Below W.heap.size W w' ∧ turned w w' [] := by
  obtain ⟨F, h1, h2, h3⟩ := h
  have hs := h3.size
  have hlt := h1.lt
  refine (tnewS w).mono ?_
  rintro e w' ⟨rfl, r1, g⟩
  refine ⟨rfl, F, _, h1.past (turned_none g (L := [])) (by simp), r1, fun k hk => ⟨h2 k hk, fun e => ?_⟩, fun k hk => ⟨?_, fun e => ?_⟩, below_none h3 g, turned_none g⟩
  · have := hlt k hk; simp at e; omega
  · simp at hk; omega
  · have := hlt k e; simp at hk; omega

theorem tri_setI (h : tri W w a b c n m l L M N) (k : Int) (t : Int) (hk : okI k) (hn : n < 4611686018427387904) :
    Calls Try.prog 12 #[.pointer (some ⟨a, 0, none⟩), mkI k, .int .i64 t] w fun e w' => e = .returned (.tuple #[]) ∧ tri W w' a b c (n + 1) m l (drp k L ++ [(k, t)]) M N ∧ keepsO w w' := by
  obtain ⟨F, G, E, h1, h2, h3, h4, h5, h6, h7⟩ := h
  refine (tsetI a F n L k t w h1 hk hn).mono ?_
  rintro e w' ⟨rfl, r, g⟩
  exact ⟨rfl, tri.one h2 h3 h4 h5 h6 h7 r g, fun kk ty cs e1 e2 e3 ho => ho.past g (tab_apart h1 ho e1)⟩
theorem tri_stopI (h : tri W w a b c n m l L M N) (k : Int) (hk : okI k) :
    Calls Try.prog 14 #[.pointer (some ⟨a, 0, none⟩), mkI k] w fun e w' => e = .returned (.bool (decide (∃ x, x ∈ L ∧ x.1 = k))) ∧ tri W w' a b c n m l (drp k L) M N ∧ keepsO w w' := by
  obtain ⟨F, G, E, h1, h2, h3, h4, h5, h6, h7⟩ := h
  refine (tstopI a F n L k w h1 hk).mono ?_
  rintro e w' ⟨rfl, r, g⟩
  exact ⟨rfl, tri.one h2 h3 h4 h5 h6 h7 r g, fun kk ty cs e1 e2 e3 ho => ho.past g (tab_apart h1 ho e1)⟩
theorem tri_popI (h : tri W w a b c n m l L M N) (now : Int) :
    Calls Try.prog 18 #[.pointer (some ⟨a, 0, none⟩), .int .i64 now] w fun e w' => e = .returned (.tuple #[mkI (popVI now L).1, .bool (popVI now L).2]) ∧ tri W w' a b c n m l (popLI now L) M N ∧ keepsO w w' := by
  have h0 := h
  obtain ⟨F, G, E, h1, h2, h3, h4, h5, h6, h7⟩ := h
  unfold popVI popLI
  cases hb : best L with
  | none =>
    refine (tpopI_no a F n L now w h1 (by rw [hb]; intro x hx; cases hx)).mono ?_
    rintro e w' ⟨rfl, t⟩
    exact ⟨rfl, h0.stay t, keepsO_none t⟩
  | some x =>
    by_cases hx : x.2 ≤ now
    · dsimp only
      rw [if_pos hx, if_pos hx]
      refine (tpopI_yes a F n L x now w h1 hb hx).mono ?_
      rintro e w' ⟨rfl, r, g⟩
      exact ⟨rfl, tri.one h2 h3 h4 h5 h6 h7 r g, fun kk ty cs e1 e2 e3 ho => ho.past g (tab_apart h1 ho e1)⟩
    · dsimp only
      rw [if_neg hx, if_neg hx]
      refine (tpopI_no a F n L now w h1 (by rw [hb]; intro y hy; cases hy; omega)).mono ?_
      rintro e w' ⟨rfl, t⟩
      exact ⟨rfl, h0.stay t, keepsO_none t⟩
theorem tri_lenI (h : tri W w a b c n m l L M N) :
    Calls Try.prog 20 #[.pointer (some ⟨a, 0, none⟩)] w fun e w' => e = .returned (.int .i64 (L.length : Int)) ∧ w = w' := by
  obtain ⟨F, G, E, h1, h2, h3, _⟩ := h
  exact tlenI a F n L w h1

theorem tri_setS (h : tri W w a b c n m l L M N) (k : ByteArray) (t : Int) (hk : okS k) (hn : m < 4611686018427387904) :
    Calls Try.prog 28 #[.pointer (some ⟨b, 0, none⟩), mkS k, .int .i64 t] w fun e w' => e = .returned (.tuple #[]) ∧ tri W w' a b c n (m + 1) l L (drp k M ++ [(k, t)]) N ∧ keepsO w w' := by
  obtain ⟨F, G, E, h1, h2, h3, h4, h5, h6, h7⟩ := h
  refine (tsetS b G m M k t w h2 hk hn).mono ?_
  rintro e w' ⟨rfl, r, g⟩
  exact ⟨rfl, tri.two_ h1 h3 h4 h5 h6 h7 r g, fun kk ty cs e1 e2 e3 ho => ho.past g (tab_apart h2 ho e2)⟩
theorem tri_stopS (h : tri W w a b c n m l L M N) (k : ByteArray) (hk : okS k) :
    Calls Try.prog 30 #[.pointer (some ⟨b, 0, none⟩), mkS k] w fun e w' => e = .returned (.bool (decide (∃ x, x ∈ M ∧ x.1 = k))) ∧ tri W w' a b c n m l L (drp k M) N ∧ keepsO w w' := by
  obtain ⟨F, G, E, h1, h2, h3, h4, h5, h6, h7⟩ := h
  refine (tstopS b G m M k w h2 hk).mono ?_
  rintro e w' ⟨rfl, r, g⟩
  exact ⟨rfl, tri.two_ h1 h3 h4 h5 h6 h7 r g, fun kk ty cs e1 e2 e3 ho => ho.past g (tab_apart h2 ho e2)⟩
theorem tri_popS (h : tri W w a b c n m l L M N) (now : Int) :
    Calls Try.prog 32 #[.pointer (some ⟨b, 0, none⟩), .int .i64 now] w fun e w' => e = .returned (.tuple #[mkS (popVS now M).1, .bool (popVS now M).2]) ∧ tri W w' a b c n m l L (popLS now M) N ∧ keepsO w w' := by
  have h0 := h
  obtain ⟨F, G, E, h1, h2, h3, h4, h5, h6, h7⟩ := h
  unfold popVS popLS
  cases hb : best M with
  | none =>
    refine (tpopS_no b G m M now w h2 (by rw [hb]; intro x hx; cases hx)).mono ?_
    rintro e w' ⟨rfl, t⟩
    exact ⟨rfl, h0.stay t, keepsO_none t⟩
  | some x =>
    by_cases hx : x.2 ≤ now
    · dsimp only
      rw [if_pos hx, if_pos hx]
      refine (tpopS_yes b G m M x now w h2 hb hx).mono ?_
      rintro e w' ⟨rfl, r, g⟩
      exact ⟨rfl, tri.two_ h1 h3 h4 h5 h6 h7 r g, fun kk ty cs e1 e2 e3 ho => ho.past g (tab_apart h2 ho e2)⟩
    · dsimp only
      rw [if_neg hx, if_neg hx]
      refine (tpopS_no b G m M now w h2 (by rw [hb]; intro y hy; cases hy; omega)).mono ?_
      rintro e w' ⟨rfl, t⟩
      exact ⟨rfl, h0.stay t, keepsO_none t⟩
theorem tri_lenS (h : tri W w a b c n m l L M N) :
    Calls Try.prog 34 #[.pointer (some ⟨b, 0, none⟩)] w fun e w' => e = .returned (.int .i64 (M.length : Int)) ∧ w = w' := by
  obtain ⟨F, G, E, h1, h2, h3, _⟩ := h
  exact tlenS b G m M w h2

theorem tri_setK (h : tri W w a b c n m l L M N) (k : (Int × Int)) (t : Int) (hk : okK k) (hn : l < 4611686018427387904) :
    Calls Try.prog 29 #[.pointer (some ⟨c, 0, none⟩), mkK k, .int .i64 t] w fun e w' => e = .returned (.tuple #[]) ∧ tri W w' a b c n m (l + 1) L M (drp k N ++ [(k, t)]) ∧ keepsO w w' := by
  obtain ⟨F, G, E, h1, h2, h3, h4, h5, h6, h7⟩ := h
  refine (tsetK c E l N k t w h3 hk hn).mono ?_
  rintro e w' ⟨rfl, r, g⟩
  exact ⟨rfl, tri.three h1 h2 h4 h5 h6 h7 r g, fun kk ty cs e1 e2 e3 ho => ho.past g (tab_apart h3 ho e3)⟩
theorem tri_stopK (h : tri W w a b c n m l L M N) (k : (Int × Int)) (hk : okK k) :
    Calls Try.prog 31 #[.pointer (some ⟨c, 0, none⟩), mkK k] w fun e w' => e = .returned (.bool (decide (∃ x, x ∈ N ∧ x.1 = k))) ∧ tri W w' a b c n m l L M (drp k N) ∧ keepsO w w' := by
  obtain ⟨F, G, E, h1, h2, h3, h4, h5, h6, h7⟩ := h
  refine (tstopK c E l N k w h3 hk).mono ?_
  rintro e w' ⟨rfl, r, g⟩
  exact ⟨rfl, tri.three h1 h2 h4 h5 h6 h7 r g, fun kk ty cs e1 e2 e3 ho => ho.past g (tab_apart h3 ho e3)⟩
theorem tri_popK (h : tri W w a b c n m l L M N) (now : Int) :
    Calls Try.prog 33 #[.pointer (some ⟨c, 0, none⟩), .int .i64 now] w fun e w' => e = .returned (.tuple #[mkK (popVK now N).1, .bool (popVK now N).2]) ∧ tri W w' a b c n m l L M (popLK now N) ∧ keepsO w w' := by
  have h0 := h
  obtain ⟨F, G, E, h1, h2, h3, h4, h5, h6, h7⟩ := h
  unfold popVK popLK
  cases hb : best N with
  | none =>
    refine (tpopK_no c E l N now w h3 (by rw [hb]; intro x hx; cases hx)).mono ?_
    rintro e w' ⟨rfl, t⟩
    exact ⟨rfl, h0.stay t, keepsO_none t⟩
  | some x =>
    by_cases hx : x.2 ≤ now
    · dsimp only
      rw [if_pos hx, if_pos hx]
      refine (tpopK_yes c E l N x now w h3 hb hx).mono ?_
      rintro e w' ⟨rfl, r, g⟩
      exact ⟨rfl, tri.three h1 h2 h4 h5 h6 h7 r g, fun kk ty cs e1 e2 e3 ho => ho.past g (tab_apart h3 ho e3)⟩
    · dsimp only
      rw [if_neg hx, if_neg hx]
      refine (tpopK_no c E l N now w h3 (by rw [hb]; intro y hy; cases hy; omega)).mono ?_
      rintro e w' ⟨rfl, t⟩
      exact ⟨rfl, h0.stay t, keepsO_none t⟩
theorem tri_lenK (h : tri W w a b c n m l L M N) :
    Calls Try.prog 35 #[.pointer (some ⟨c, 0, none⟩)] w fun e w' => e = .returned (.int .i64 (N.length : Int)) ∧ w = w' := by
  obtain ⟨F, G, E, h1, h2, h3, _⟩ := h
  exact tlenK c E l N w h3

end

/-! ## four keys, in three spellings -/
def nam (k : Fin 4) : ByteArray := match k with | 0 => ⟨#[97]⟩ | 1 => ⟨#[98]⟩ | 2 => ⟨#[]⟩ | 3 => ⟨#[100]⟩
def par (k : Fin 4) : Int × Int := ((k.val : Int) / 2, (k.val : Int) % 2)
def num (k : Fin 4) : Int := (k.val : Int)
theorem nam_inj : ∀ x y, nam x = nam y → x = y := by decide
theorem par_inj : ∀ x y, par x = par y → x = y := by decide
theorem num_inj : ∀ x y, num x = num y → x = y := by decide
section
variable {α : Type} [DecidableEq α] (f : Fin 4 → α) (hf : ∀ x y, f x = f y → x = y)
def ren (f : Fin 4 → α) (L : List (Fin 4 × Int)) : List (α × Int) := L.map (fun e => (f e.1, e.2))
include hf
theorem ren_drp (k : Fin 4) (L : List (Fin 4 × Int)) : drp (f k) (ren f L) = ren f (drp k L) := by
  unfold drp ren
  rw [List.filter_map]
  congr 1
  refine List.filter_congr fun e _ => ?_
  show decide (f e.1 ≠ f k) = decide (e.1 ≠ k)
  rw [Bool.eq_iff_iff, decide_eq_true_eq, decide_eq_true_eq]
  exact ⟨fun h e1 => h (by rw [e1]), fun h e1 => h (hf _ _ e1)⟩
theorem ren_has (k : Fin 4) (L : List (Fin 4 × Int)) : decide (∃ x, x ∈ ren f L ∧ x.1 = f k) = decide (∃ x, x ∈ L ∧ x.1 = k) := by
  rw [Bool.eq_iff_iff, decide_eq_true_eq, decide_eq_true_eq]
  unfold ren
  constructor
  · rintro ⟨x, hx, e1⟩
    obtain ⟨y, hy, rfl⟩ := List.mem_map.1 hx
    exact ⟨y, hy, hf _ _ e1⟩
  · rintro ⟨x, hx, rfl⟩
    exact ⟨_, List.mem_map.2 ⟨x, hx, rfl⟩, rfl⟩
omit hf
theorem ren_foldl (x : Fin 4 × Int) : ∀ (L : List (Fin 4 × Int)), (L.map (fun e => (f e.1, e.2))).foldl low (f x.1, x.2) = (f (L.foldl low x).1, (L.foldl low x).2) := by
  intro L
  induction L generalizing x with
  | nil => rfl
  | cons y L ih =>
    rw [List.map_cons, List.foldl_cons, List.foldl_cons, ← ih]
    congr 1
    unfold low
    dsimp only
    split <;> rfl
theorem ren_best (L : List (Fin 4 × Int)) : best (ren f L) = (best L).map (fun e => (f e.1, e.2)) := by
  cases L with
  | nil => rfl
  | cons x L => exact congrArg some (ren_foldl f x L)
theorem ren_len (L : List (Fin 4 × Int)) : (ren f L).length = L.length := List.length_map ..
theorem ren_snoc (L : List (Fin 4 × Int)) (k : Fin 4) (t : Int) : ren f L ++ [(f k, t)] = ren f (L ++ [(k, t)]) := by simp [ren]
end
/-- What Pop does to the keys. -/
def popF (now : Int) (L : List (Fin 4 × Int)) : List (Fin 4 × Int) := match best L with
  | none => L
  | some x => if x.2 ≤ now then drp x.1 L else L
def popO (now : Int) (L : List (Fin 4 × Int)) : Option (Fin 4) := match best L with
  | none => none
  | some x => if x.2 ≤ now then some x.1 else none

theorem pop_renI (now : Int) (L : List (Fin 4 × Int)) : popLI now (ren num L) = ren num (popF now L) ∧ popVI now (ren num L) = (match popO now L with | none => (0, false) | some k => (num k, true)) := by
  unfold popLI popVI popF popO
  rw [ren_best]
  cases best L with
  | none => exact ⟨rfl, rfl⟩
  | some x =>
    simp only [Option.map_some]
    by_cases hx : x.2 ≤ now
    · simp only [if_pos hx, ren_drp num num_inj, and_self]
    · simp only [if_neg hx, and_self]
theorem ok_num (k : Fin 4) : okI (num k) := by
  exact keyI (by revert k; decide)

theorem pop_renS (now : Int) (L : List (Fin 4 × Int)) : popLS now (ren nam L) = ren nam (popF now L) ∧ popVS now (ren nam L) = (match popO now L with | none => (ByteArray.empty, false) | some k => (nam k, true)) := by
  unfold popLS popVS popF popO
  rw [ren_best]
  cases best L with
  | none => exact ⟨rfl, rfl⟩
  | some x =>
    simp only [Option.map_some]
    by_cases hx : x.2 ≤ now
    · simp only [if_pos hx, ren_drp nam nam_inj, and_self]
    · simp only [if_neg hx, and_self]
theorem ok_nam (k : Fin 4) : okS (nam k) := by
  exact keyS (by revert k; decide)

theorem pop_renK (now : Int) (L : List (Fin 4 × Int)) : popLK now (ren par L) = ren par (popF now L) ∧ popVK now (ren par L) = (match popO now L with | none => ((0, 0), false) | some k => (par k, true)) := by
  unfold popLK popVK popF popO
  rw [ren_best]
  cases best L with
  | none => exact ⟨rfl, rfl⟩
  | some x =>
    simp only [Option.map_some]
    by_cases hx : x.2 ≤ now
    · simp only [if_pos hx, ren_drp par par_inj, and_self]
    · simp only [if_neg hx, and_self]
theorem ok_par (k : Fin 4) : okK (par k) := by
  exact keyK (by revert k; decide) (by revert k; decide)

end Go.Proofs.Ytebdnciehobfaaa
