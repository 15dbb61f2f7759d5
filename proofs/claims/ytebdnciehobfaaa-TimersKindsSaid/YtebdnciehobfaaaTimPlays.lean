/- The walk of TimersPlays. No condition. -/
import Derived.Test.YtebdnciehobfaaaTimRef
namespace Go.Proofs.Ytebdnciehobfaaa
open Go.RowKit Go.ChangeShapes Go.WideShapes Go.Deep
set_option linter.unusedVariables false
set_option linter.unusedSimpArgs false

/-- Steps that came in. -/
def Steps (W : World) (v : Value) (x : Nat × (Nat → Int × Int × Int)) : Prop :=
  IsSl W v x.1 3 (fun i j => if j = 0 then .int .i64 (x.2 i).1 else if j = 1 then .int .i64 (x.2 i).2.1 else .int .i64 (x.2 i).2.2) ∧ ∀ i, i < x.1 → (Lit.int .i64 (x.2 i).2.1).wf = true
theorem opened22 {H : Type} {enc : TypeId × Value → H} {W : World} {r : Reach} {base : Nat} {v : Value} {d : DataW H} {p : List MemPlace}
    (hv : Value.okWide Try.prog W r base 22 v) (h : DataW.Trod enc Try.prog W 0 (fun _ => true) true 22 v d p) : ∃ x, Steps W v x := by
  obtain ⟨n, V, hsl, hV⟩ := openSl 3 Try.underlying22 Try.underlying31 (by kernel_rfl) (by kernel_rfl) rfl (by decide) hv h
  have e0 : ∀ i, i < n → ∃ c : Int, V i 0 = .int .i64 c ∧ (Lit.int .i64 c).wf = true := fun i hi => by
    obtain ⟨m, y, hy⟩ := hV i hi 0 _ rfl
    exact trod_int1 Try.underlying3 hy
  have e1 : ∀ i, i < n → ∃ c : Int, V i 1 = .int .i64 c ∧ (Lit.int .i64 c).wf = true := fun i hi => by
    obtain ⟨m, y, hy⟩ := hV i hi 1 _ rfl
    exact trod_int1 Try.underlying3 hy
  have e2 : ∀ i, i < n → ∃ c : Int, V i 2 = .int .i64 c ∧ (Lit.int .i64 c).wf = true := fun i hi => by
    obtain ⟨m, y, hy⟩ := hV i hi 2 _ rfl
    exact trod_int1 Try.underlying2 hy
  obtain ⟨f0, h0⟩ := choose_lt e0
  obtain ⟨f1, h1⟩ := choose_lt e1
  obtain ⟨f2, h2⟩ := choose_lt e2
  refine ⟨(n, fun i => (f0 i, f1 i, f2 i)), isSl_congr hsl fun i j hi hj => ?_, fun i hi => (h1 i hi).2⟩
  match j, hj with
  | 0, _ => exact (h0 i hi).1
  | 1, _ => exact (h1 i hi).1
  | 2, _ => exact (h2 i hi).1

/-- A table with the row L beside the document's one with the row M. -/
def md (W w : World) (a b n : Nat) (L M : List (Int × Int)) : Prop :=
  ∃ F sv, tabI w a F n L ∧ refIs W.heap.size w b sv M ∧ (∀ k, k ∈ F → W.heap.size ≤ k ∧ k ≠ b ∧ sv.ownBlock ≠ some k) ∧ W.heap.size ≤ b ∧ Below W.heap.size W w
theorem md.below {W w : World} {a b n : Nat} {L M : List (Int × Int)} (h : md W w a b n L M) : Below W.heap.size W w := by obtain ⟨F, sv, _, _, _, _, h⟩ := h; exact h
theorem md.drew {W w : World} {a b n : Nat} {L M : List (Int × Int)} (h : md W w a b n L M) : md W w.drew a b n L M := by
  obtain ⟨F, sv, h1, h2, h3, h4, h5⟩ := h
  exact ⟨F, sv, h1.past (turned_drew w []) (by simp), h2.past (turned_drew w []) (by simp) (by simp), h3, h4, h5.drew⟩
theorem md.keys {W w : World} {a b n : Nat} {L M : List (Int × Int)} (h : md W w a b n L M) : L.Pairwise (fun a b => a.1 ≠ b.1) := by obtain ⟨F, sv, h, _⟩ := h; exact h.keys
theorem md.mono {W w : World} {a b n n' : Nat} {L M : List (Int × Int)} (h : md W w a b n L M) (hn : n ≤ n') : md W w a b n' L M := by obtain ⟨F, sv, h, r⟩ := h; exact ⟨F, sv, h.mono hn, r⟩
theorem md.cell {W w : World} {a b n : Nat} {L M : List (Int × Int)} (h : md W w a b n L M) : ∃ ad cap, w.cell? ⟨b, 0, none⟩ = some (.slice ad M.length cap) := by
  obtain ⟨F, sv, h1, h2, h3, h4, h5⟩ := h
  obtain ⟨ad, cap, rfl, _⟩ := h2.form
  exact ⟨ad, cap, h2.1.cell 0 rfl⟩
theorem md.len {W w : World} {a b n : Nat} {L M : List (Int × Int)} (h : md W w a b n L M) : L.length ≤ n := by
  obtain ⟨F, sv, ⟨m, D, turn, es, h1, h2, h3, h4, h5, h6, h7, h8, rfl, rfl⟩, _⟩ := h
  rw [List.length_map, ← h3.size]
  exact h2.size_le
theorem md_T {W w w' : World} {a b n' : Nat} {L' M : List (Int × Int)} {F : List Nat} {sv : Value} (h1 : tabI w' a F n' L') (t : turned w w' F) (h2 : refIs W.heap.size w b sv M) (h3 : ∀ k, k ∈ F → W.heap.size ≤ k ∧ k ≠ b ∧ sv.ownBlock ≠ some k) (h4 : W.heap.size ≤ b) (h5 : Below W.heap.size W w) : md W w' a b n' L' M :=
  ⟨F, sv, h1, h2.past t (fun e => (h3 b e).2.1 rfl) (fun g hg e => (h3 g e).2.2 hg), h3, h4, below_turned h5 t (fun k hk => (h3 k hk).1)⟩
theorem md_R {W w w' : World} {a b n : Nat} {L M M' : List (Int × Int)} {F : List Nat} {sv : Value} (h1 : tabI w a F n L) (h2 : refIs W.heap.size w b sv M) (h3 : ∀ k, k ∈ F → W.heap.size ≤ k ∧ k ≠ b ∧ sv.ownBlock ≠ some k) (h4 : W.heap.size ≤ b) (h5 : Below W.heap.size W w) (r : RefDid W.heap.size w w' b sv M') : md W w' a b n L M' := by
  obtain ⟨sv', r1, r2, r3⟩ := r
  refine ⟨F, sv', h1.past r2 (fun k hk e => ?_), r1, fun k hk => ⟨(h3 k hk).1, (h3 k hk).2.1, fun e => ?_⟩, h4, below_turned h5 r2 (fun k hk => ?_)⟩
  · simp only [List.mem_cons, Option.mem_toList] at e
    rcases e with e | e
    · exact (h3 k hk).2.1 e
    · exact (h3 k hk).2.2 e
  · rcases r3 k e with h | h
    · exact (h3 k hk).2.2 h
    · have := h1.lt k hk; omega
  · simp only [List.mem_cons, Option.mem_toList] at hk
    rcases hk with rfl | hk
    · exact h4
    · exact (h2.2.1.lt k hk).1
theorem md_same {W w w' : World} {a b n : Nat} {L M : List (Int × Int)} (h : md W w a b n L M) (t : turned w w' []) : md W w' a b n L M := by
  obtain ⟨F, sv, h1, h2, h3, h4, h5⟩ := h
  exact ⟨F, sv, h1.past t (by simp), h2.past t (by simp) (by simp), h3, h4, below_turned h5 t (by simp)⟩
theorem mdTset {W w : World} {a b n : Nat} {L M : List (Int × Int)} (h : md W w a b n L M) (k t : Int) (hk : okI k) (hn : n < 4611686018427387904) :
    Calls Try.prog 12 #[.pointer (some ⟨a, 0, none⟩), .int .i64 k, .int .i64 t] w fun e w' => e = .returned (.tuple #[]) ∧ md W w' a b (n + 1) (drp k L ++ [(k, t)]) M := by
  obtain ⟨F, sv, h1, h2, h3, h4, h5⟩ := h
  refine (tsetI a F n L k t w h1 hk hn).mono ?_
  rintro e w' ⟨rfl, r, tt⟩
  exact ⟨rfl, md_T r tt h2 h3 h4 h5⟩
theorem mdTstop {W w : World} {a b n : Nat} {L M : List (Int × Int)} (h : md W w a b n L M) (k : Int) (hk : okI k) :
    Calls Try.prog 14 #[.pointer (some ⟨a, 0, none⟩), .int .i64 k] w fun e w' => e = .returned (.bool (decide (∃ x, x ∈ L ∧ x.1 = k))) ∧ md W w' a b n (drp k L) M := by
  obtain ⟨F, sv, h1, h2, h3, h4, h5⟩ := h
  refine (tstopI a F n L k w h1 hk).mono ?_
  rintro e w' ⟨rfl, r, tt⟩
  exact ⟨rfl, md_T r tt h2 h3 h4 h5⟩
theorem mdTnext {W w : World} {a b n : Nat} {L M : List (Int × Int)} (h : md W w a b n L M) :
    Calls Try.prog 16 #[.pointer (some ⟨a, 0, none⟩)] w fun e w' => e = .returned (outR (best L)) ∧ md W w' a b n L M := by
  have h' := h
  obtain ⟨F, sv, h1, h2, h3, h4, h5⟩ := h
  refine (tnextI a F n L w h1).mono ?_
  rintro e w' ⟨rfl, tt⟩
  refine ⟨?_, md_same h' tt⟩
  cases best L <;> rfl
theorem mdTpop {W w : World} {a b n : Nat} {L M : List (Int × Int)} (h : md W w a b n L M) (now : Int) :
    Calls Try.prog 18 #[.pointer (some ⟨a, 0, none⟩), .int .i64 now] w fun e w' => e = .returned (.tuple #[.int .i64 (popVI now L).1, .bool (popVI now L).2]) ∧ md W w' a b n (popLI now L) M := by
  have h' := h
  obtain ⟨F, sv, h1, h2, h3, h4, h5⟩ := h
  unfold popVI popLI
  cases hb : best L with
  | none =>
    refine (tpopI_no a F n L now w h1 (by rw [hb]; intro x hx; cases hx)).mono ?_
    rintro e w' ⟨rfl, t⟩
    exact ⟨rfl, md_same h' t⟩
  | some x =>
    by_cases hx : x.2 ≤ now
    · dsimp only
      rw [if_pos hx, if_pos hx]
      refine (tpopI_yes a F n L x now w h1 hb hx).mono ?_
      rintro e w' ⟨rfl, r, t⟩
      exact ⟨rfl, md_T r t h2 h3 h4 h5⟩
    · dsimp only
      rw [if_neg hx, if_neg hx]
      refine (tpopI_no a F n L now w h1 (by rw [hb]; intro y hy; cases hy; omega)).mono ?_
      rintro e w' ⟨rfl, t⟩
      exact ⟨rfl, md_same h' t⟩
theorem mdTlen {W w : World} {a b n : Nat} {L M : List (Int × Int)} (h : md W w a b n L M) :
    Calls Try.prog 20 #[.pointer (some ⟨a, 0, none⟩)] w fun e w' => e = .returned (.int .i64 (L.length : Int)) ∧ w = w' := by
  obtain ⟨F, sv, h1, _⟩ := h
  exact tlenI a F n L w h1
theorem mdRset {W w : World} {a b n : Nat} {L M : List (Int × Int)} (h : md W w a b n L M) (k t : Int) (hM : M.length ≤ 1000000) :
    Calls Try.prog 13 #[.pointer (some ⟨b, 0, none⟩), .int .i64 k, .int .i64 t] w fun e w' => e = .returned (.tuple #[]) ∧ md W w' a b n L (drp k M ++ [(k, t)]) := by
  obtain ⟨F, sv, h1, h2, h3, h4, h5⟩ := h
  refine (rset W.heap.size b sv M k t w h2 hM).mono ?_
  rintro e w' ⟨rfl, r⟩
  exact ⟨rfl, md_R h1 h2 h3 h4 h5 r⟩
theorem mdRstop {W w : World} {a b n : Nat} {L M : List (Int × Int)} (h : md W w a b n L M) (k : Int) (hM : M.length ≤ 1000000) :
    Calls Try.prog 15 #[.pointer (some ⟨b, 0, none⟩), .int .i64 k] w fun e w' => e = .returned (.bool (decide (∃ x, x ∈ M ∧ x.1 = k))) ∧ md W w' a b n L (drp k M) := by
  have h' := h
  obtain ⟨F, sv, h1, h2, h3, h4, h5⟩ := h
  by_cases hk : ∃ x, x ∈ M ∧ x.1 = k
  · rw [decide_eq_true hk]
    refine (rstop W.heap.size b sv M k w h2 hM hk).mono ?_
    rintro e w' ⟨rfl, r⟩
    exact ⟨rfl, md_R h1 h2 h3 h4 h5 r⟩
  · rw [decide_eq_false hk]
    have hk' : ∀ x, x ∈ M → x.1 ≠ k := fun x hx e => hk ⟨x, hx, e⟩
    refine (rstop_no W.heap.size b sv M k w h2 hM hk').mono ?_
    rintro e w' ⟨rfl, rfl⟩
    exact ⟨rfl, by rw [drp_none hk']; exact h'⟩
theorem mdRnext {W w : World} {a b n : Nat} {L M : List (Int × Int)} (h : md W w a b n L M) (hM : M.length ≤ 1000000) :
    Calls Try.prog 17 #[.pointer (some ⟨b, 0, none⟩)] w fun e w' => e = .returned (outR (best M)) ∧ md W w' a b n L M := by
  have h' := h
  obtain ⟨F, sv, h1, h2, h3, h4, h5⟩ := h
  refine (rnext_any W.heap.size b sv M w h2 hM).mono ?_
  rintro e w' ⟨rfl, tt⟩
  exact ⟨rfl, md_same h' tt⟩
theorem mdRpop {W w : World} {a b n : Nat} {L M : List (Int × Int)} (h : md W w a b n L M) (now : Int) (hM : M.length ≤ 1000000) :
    Calls Try.prog 19 #[.pointer (some ⟨b, 0, none⟩), .int .i64 now] w fun e w' => e = .returned (.tuple #[.int .i64 (popVI now M).1, .bool (popVI now M).2]) ∧ md W w' a b n L (popLI now M) := by
  have h' := h
  obtain ⟨F, sv, h1, h2, h3, h4, h5⟩ := h
  unfold popVI popLI
  cases hb : best M with
  | none =>
    refine (rpop_no W.heap.size b sv M now w h2 hM (by rw [hb]; intro x hx; cases hx)).mono ?_
    rintro e w' ⟨rfl, t⟩
    exact ⟨rfl, md_same h' t⟩
  | some x =>
    by_cases hx : x.2 ≤ now
    · dsimp only
      rw [if_pos hx, if_pos hx]
      refine (rpop W.heap.size b sv M x now w h2 hM hb hx).mono ?_
      rintro e w' ⟨rfl, r⟩
      exact ⟨rfl, md_R h1 h2 h3 h4 h5 r⟩
    · dsimp only
      rw [if_neg hx, if_neg hx]
      refine (rpop_no W.heap.size b sv M now w h2 hM (by rw [hb]; intro y hy; cases hy; omega)).mono ?_
      rintro e w' ⟨rfl, t⟩
      exact ⟨rfl, md_same h' t⟩

theorem md_start {W w : World} {a : Nat} (h : heldI W w a 0 []) : md W (w.alloc (.cells #[.slice none 0 0] 29)) a w.heap.size 0 [] [] := by
  obtain ⟨F, h1, h2, h3⟩ := h
  have hs := h3.size
  have t : turned w (w.alloc (.cells #[.slice none 0 0] 29)) [] := turned_alloc (turned_refl w []) _
  refine ⟨F, .slice none 0 0, h1.past t (by simp), ⟨obj.new w 29 [.slice none 0 0], World.ownsRow_nil _ _ _ _, List.Pairwise.nil, by simp; omega⟩, fun k hk => ⟨h2 k hk, fun e => ?_, by simp [Value.ownBlock]⟩, hs, below_turned h3 t (by simp)⟩
  have := h1.lt k hk
  omega
def PRel (W : World) (a b n : Nat) (i : Value) (wr : World) : Prop :=
  ∃ (k : Nat) (L : List (Int × Int)), k ≤ n ∧ i = .int .i64 (k : Int) ∧ md W wr a b k L L

set_option maxRecDepth 100000 in
set_option maxHeartbeats 16000000 in
theorem plays_good (v : Value) (x : Nat × (Nat → Int × Int × Int)) (W : World) (ho : Steps W v x) (hn : x.1 ≤ 200) :
    Calls Try.prog 3 #[v] W fun e w' => e = .returned (.bool true) ∧ Below W.heap.size W w' := by
  obtain ⟨n, sk⟩ := x
  obtain ⟨⟨ad, cap, rfl, hcap, hcap2, hsl⟩, hwf⟩ := ho
  simp only at hn hwf hsl hcap
  have HSL := Lib.hid hsl
  have HWF := Lib.hid hwf
  clear hsl hwf
  go_enter Try.func3, Try.ntmps3
  go_wp2_with fail
  refine (hnewI (Below.refl _ W)).mono ?_
  rintro e w1 ⟨rfl, h1⟩
  have H1 := Lib.hid (md_start h1)
  have hsz : w1.heap.size ≠ W.heap.size + 1 := by
    obtain ⟨F, h, _⟩ := h1
    obtain ⟨m, D, turn, es, o1, _⟩ := h
    have := o1.lt
    omega
  clear h1
  generalize W.heap.size + 1 = a at H1 hsz ⊢
  go_wp2_with fail
  go_loopw [5] (fun i wr => PRel W a w1.heap.size n i wr) (fun i _ => n - (intOf i).toNat)
  case atStart => exact ⟨0, [], Nat.zero_le _, rfl, H1.out⟩
  case round =>
    obtain ⟨k, L, hk, rfl, hm⟩ := hrel
    generalize w1.heap.size = b at hm ⊢
    have HM := Lib.hid hm
    have hll := hm.len
    clear hm
    by_cases hlt : k < n
    · rcases HSL.out with h0 | ⟨bb, off, rfl, hb, hc⟩
      · omega
      have HC := Lib.hid hc
      have okK : okI (sk k).2.1 := keyI (HWF.out k hlt)
      have r0 := sl_cell (HC.out k 0 hlt (by decide)) hb HM.out.below; simp at r0
      have r1 := sl_cell (HC.out k 1 hlt (by decide)) hb HM.out.below; simp at r1
      have r2 := sl_cell (HC.out k 2 hlt (by decide)) hb HM.out.below; simp at r2
      clear hc
      by_cases k0 : (sk k).1 = 0
      · have b0 : ((sk k).1 == 0) = true := by simp [k0]
        go_wp2_with fail
        go_region_held3 (fun w' => w'.cell? ⟨bb, off + k * 3, none⟩ = some (.int .i64 (sk k).1) ∧ w'.cell? ⟨bb, off + k * 3 + 1, none⟩ = some (.int .i64 (sk k).2.1) ∧ w'.cell? ⟨bb, off + k * 3 + 2, none⟩ = some (.int .i64 (sk k).2.2)) (first | (simp [go_sem, *]; done) | assumption) (first
          | (go_at_call 12; refine (mdTset (by exact HM.out.drew) (sk k).2.1 (sk k).2.2 okK (by omega)).mono ?_; rintro e w4 ⟨rfl, h4⟩; have q0 := sl_cell (HC.out k 0 hlt (by decide)) hb h4.below; simp at q0; have q1 := sl_cell (HC.out k 1 hlt (by decide)) hb h4.below; simp at q1; have q2 := sl_cell (HC.out k 2 hlt (by decide)) hb h4.below; simp at q2; have H4 := Lib.hid h4; clear h4))
        go_wp2_with fail
        go_region_held3 (fun w' => w'.cell? ⟨bb, off + k * 3, none⟩ = some (.int .i64 (sk k).1) ∧ w'.cell? ⟨bb, off + k * 3 + 1, none⟩ = some (.int .i64 (sk k).2.1) ∧ w'.cell? ⟨bb, off + k * 3 + 2, none⟩ = some (.int .i64 (sk k).2.2)) (first | (simp [go_sem, *]; done) | assumption) (first
          | (go_at_call 13; refine (mdRset (by exact H4.out.drew) (sk k).2.1 (sk k).2.2 (by omega)).mono ?_; rintro e w5 ⟨rfl, h5⟩; have p0 := sl_cell (HC.out k 0 hlt (by decide)) hb h5.below; simp at p0; have p1 := sl_cell (HC.out k 1 hlt (by decide)) hb h5.below; simp at p1; have p2 := sl_cell (HC.out k 2 hlt (by decide)) hb h5.below; simp at p2; have H5 := Lib.hid h5; clear h5))
        obtain ⟨ad2, cap2, hcb⟩ := H5.out.cell
        have hq : (((drp (sk k).2.1 L ++ [((sk k).2.1, (sk k).2.2)]).length : Int) != ((drp (sk k).2.1 L ++ [((sk k).2.1, (sk k).2.2)]).length : Int)) = false := by simp
        go_wp2_with fail
        go_region_held3 (fun w' => w'.cell? ⟨b, 0, none⟩ = some (.slice ad2 (drp (sk k).2.1 L ++ [((sk k).2.1, (sk k).2.2)]).length cap2)) (first | (simp [go_sem, *]; done) | assumption) (first
          | (go_at_call 20; refine (mdTlen (by exact H5.out.drew)).mono ?_; rintro e w9 ⟨rfl, rfl⟩))
        go_wp2
        go_roundw
        case rel => exact ⟨k + 1, _, by omega, by go_num, H5.out.drew.mono (by omega)⟩
        case measure => simp only [intOf]; omega
      · have b0 : ((sk k).1 == 0) = false := by simpa using k0
        by_cases k1 : (sk k).1 = 1
        · have b1 : ((sk k).1 == 1) = true := by simp [k1]
          have hbq : (decide (∃ x, x ∈ L ∧ x.1 = (sk k).2.1) != decide (∃ x, x ∈ L ∧ x.1 = (sk k).2.1)) = false := by simp
          go_wp2_with fail
          go_region_held3 (fun w' => w'.cell? ⟨bb, off + k * 3, none⟩ = some (.int .i64 (sk k).1) ∧ w'.cell? ⟨bb, off + k * 3 + 1, none⟩ = some (.int .i64 (sk k).2.1) ∧ w'.cell? ⟨bb, off + k * 3 + 2, none⟩ = some (.int .i64 (sk k).2.2)) (first | (simp [go_sem, *]; done) | assumption) (first
            | (go_at_call 14; refine (mdTstop (by exact HM.out.drew) (sk k).2.1 okK).mono ?_; rintro e w4 ⟨rfl, h4⟩; have q0 := sl_cell (HC.out k 0 hlt (by decide)) hb h4.below; simp at q0; have q1 := sl_cell (HC.out k 1 hlt (by decide)) hb h4.below; simp at q1; have q2 := sl_cell (HC.out k 2 hlt (by decide)) hb h4.below; simp at q2; have H4 := Lib.hid h4; clear h4)
            | (go_at_call 15; refine (mdRstop (by exact H4.out) (sk k).2.1 (by omega)).mono ?_; rintro e w5 ⟨rfl, h5⟩; have p0 := sl_cell (HC.out k 0 hlt (by decide)) hb h5.below; simp at p0; have p1 := sl_cell (HC.out k 1 hlt (by decide)) hb h5.below; simp at p1; have p2 := sl_cell (HC.out k 2 hlt (by decide)) hb h5.below; simp at p2; have H5 := Lib.hid h5; clear h5))
          obtain ⟨ad2, cap2, hcb⟩ := H5.out.cell
          have hq : (((drp (sk k).2.1 L).length : Int) != ((drp (sk k).2.1 L).length : Int)) = false := by simp
          go_wp2_with fail
          go_region_held3 (fun w' => w'.cell? ⟨b, 0, none⟩ = some (.slice ad2 (drp (sk k).2.1 L).length cap2)) (first | (simp [go_sem, *]; done) | assumption) (first
            | (go_at_call 20; refine (mdTlen (by exact H5.out.drew)).mono ?_; rintro e w9 ⟨rfl, rfl⟩))
          go_wp2
          go_roundw
          case rel => exact ⟨k + 1, _, by omega, by go_num, H5.out.drew.mono (by omega)⟩
          case measure => simp only [intOf]; omega
        · have b1 : ((sk k).1 == 1) = false := by simpa using k1
          by_cases k2 : (sk k).1 = 2
          · have b2 : ((sk k).1 == 2) = true := by simp [k2]
            have hw : ∃ y : Int × Int × Bool, outR (best L) = .tuple #[.int .i64 y.1, .int .i64 y.2.1, .bool y.2.2] := by
              cases best L with
              | none => exact ⟨(0, 0, false), rfl⟩
              | some x => exact ⟨(x.1, x.2, true), rfl⟩
            obtain ⟨y, hy⟩ := hw
            have g1 : (y.1 != y.1) = false := by simp
            have g2 : (y.2.1 != y.2.1) = false := by simp
            have g3 : (y.2.2 != y.2.2) = false := by simp
            go_wp2_with fail
            refine (mdTnext HM.out).mono ?_
            rintro e w4 ⟨rfl, h4⟩
            rw [hy]
            have H4 := Lib.hid h4
            clear h4
            go_wp2_with fail
            refine (mdRnext H4.out (by omega)).mono ?_
            rintro e w5 ⟨rfl, h5⟩
            rw [hy]
            have H5 := Lib.hid h5
            clear h5
            obtain ⟨ad2, cap2, hcb⟩ := H5.out.cell
            have hq : (((L).length : Int) != ((L).length : Int)) = false := by simp
            go_wp2_with fail
            go_region_held3 (fun w' => w'.cell? ⟨b, 0, none⟩ = some (.slice ad2 (L).length cap2)) (first | (simp [go_sem, *]; done) | assumption) (first
              | (go_at_call 20; refine (mdTlen (by exact H5.out.drew)).mono ?_; rintro e w9 ⟨rfl, rfl⟩))
            go_wp2
            go_roundw
            case rel => exact ⟨k + 1, _, by omega, by go_num, H5.out.drew.mono (by omega)⟩
            case measure => simp only [intOf]; omega
          · have b2 : ((sk k).1 == 2) = false := by simpa using k2
            by_cases k3 : (sk k).1 = 3
            · have b3 : ((sk k).1 == 3) = true := by simp [k3]
              have g1 : ((popVI (sk k).2.2 L).1 != (popVI (sk k).2.2 L).1) = false := by simp
              have g2 : ((popVI (sk k).2.2 L).2 != (popVI (sk k).2.2 L).2) = false := by simp
              go_wp2_with fail
              refine (mdTpop HM.out (sk k).2.2).mono ?_
              rintro e w4 ⟨rfl, h4⟩
              have q0 := sl_cell (HC.out k 0 hlt (by decide)) hb h4.below; simp at q0
              have q1 := sl_cell (HC.out k 1 hlt (by decide)) hb h4.below; simp at q1
              have q2 := sl_cell (HC.out k 2 hlt (by decide)) hb h4.below; simp at q2
              have H4 := Lib.hid h4
              clear h4
              go_wp2_with fail
              refine (mdRpop H4.out (sk k).2.2 (by omega)).mono ?_
              rintro e w5 ⟨rfl, h5⟩
              have H5 := Lib.hid h5
              clear h5
              obtain ⟨ad2, cap2, hcb⟩ := H5.out.cell
              have hq : (((popLI (sk k).2.2 L).length : Int) != ((popLI (sk k).2.2 L).length : Int)) = false := by simp
              go_wp2_with fail
              go_region_held3 (fun w' => w'.cell? ⟨b, 0, none⟩ = some (.slice ad2 (popLI (sk k).2.2 L).length cap2)) (first | (simp [go_sem, *]; done) | assumption) (first
                | (go_at_call 20; refine (mdTlen (by exact H5.out.drew)).mono ?_; rintro e w9 ⟨rfl, rfl⟩))
              go_wp2
              go_roundw
              case rel => exact ⟨k + 1, _, by omega, by go_num, H5.out.drew.mono (by omega)⟩
              case measure => simp only [intOf]; omega
            · have b3 : ((sk k).1 == 3) = false := by simpa using k3
              obtain ⟨ad2, cap2, hcb⟩ := HM.out.cell
              have hq : (((L).length : Int) != ((L).length : Int)) = false := by simp
              go_wp2_with fail
              go_region_held3 (fun w' => w'.cell? ⟨b, 0, none⟩ = some (.slice ad2 (L).length cap2)) (first | (simp [go_sem, *]; done) | assumption) (first
                | (go_at_call 20; refine (mdTlen (by exact HM.out.drew)).mono ?_; rintro e w9 ⟨rfl, rfl⟩))
              go_wp2
              go_roundw
              case rel => exact ⟨k + 1, _, by omega, by go_num, HM.out.drew.mono (by omega)⟩
              case measure => simp only [intOf]; omega
    · go_wp2_with (go_at_call 10; refine (works_any _).mono ?_; rintro e w9 ⟨rfl, g9⟩)
      go_ret
      exact ⟨rfl, below_works HM.out.below g9⟩
set_option maxRecDepth 100000 in
set_option maxHeartbeats 4000000 in
theorem timersPlays.walk (W : World) (v : Value) (x : Nat × (Nat → Int × Int × Int)) (ho : Steps W v x) :
    Calls Try.prog 3 #[v] W fun e w' => e = .returned (.bool true) ∧ Below W.heap.size W w' := by
  by_cases hn : x.1 ≤ 200
  · exact plays_good v x W ho hn
  · obtain ⟨n, ts⟩ := x
    obtain ⟨⟨a, cap, rfl, hcap, hcap2, hsl⟩, hts⟩ := ho
    simp only at hn hcap
    clear hsl hts
    have h2 : 200 < n := by omega
    go_enter Try.func3, Try.ntmps3
    go_wp2_with (go_at_call 10; refine (works_any _).mono ?_; rintro e w9 ⟨rfl, g9⟩)
    go_ret
    exact ⟨rfl, g9⟩
end Go.Proofs.Ytebdnciehobfaaa

