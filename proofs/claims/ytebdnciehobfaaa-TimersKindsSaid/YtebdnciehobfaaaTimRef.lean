/- The document's table in memory, and its steps. Conditions: it lies in memory with its row. -/
import Derived.Test.YtebdnciehobfaaaTimRows
import Derived.Maps.AppendAt
import Derived.WalkLawsBesides
import Derived.BigQuiet
namespace Go.Proofs.Ytebdnciehobfaaa
open Go.RowKit Go.ChangeShapes Go.WideShapes Go.Deep
set_option linter.unusedVariables false
set_option linter.unusedSimpArgs false

def cR (x : Int × Int) : List Value := [.int .i64 x.1, .int .i64 x.2]
def flatR (L : List (Int × Int)) : List Value := (L.map cR).flatten
theorem flatR_cons (x : Int × Int) (L : List (Int × Int)) : flatR (x :: L) = .int .i64 x.1 :: .int .i64 x.2 :: flatR L := rfl
theorem flatR_len (L : List (Int × Int)) : (flatR L).length = L.length * 2 := by
  induction L with
  | nil => rfl
  | cons x L ih => rw [flatR_cons, List.length_cons, List.length_cons, ih, List.length_cons]; omega
theorem flatR_app (L M : List (Int × Int)) : flatR (L ++ M) = flatR L ++ flatR M := by simp [flatR]
theorem flatR_one (L : List (Int × Int)) : ∀ u, u ∈ flatR L → u.oneCell' = true := by
  intro u hu
  simp only [flatR, List.mem_flatten, List.mem_map] at hu
  obtain ⟨l, ⟨a, _, rfl⟩, hu⟩ := hu
  simp [cR] at hu
  rcases hu with rfl | rfl <;> rfl
theorem flatR_at0 (L : List (Int × Int)) (i : Nat) (h : i < L.length) : (flatR L)[i * 2]? = some (.int .i64 (L[i]'h).1) := by
  induction L generalizing i with
  | nil => simp at h
  | cons x L ih =>
    rw [flatR_cons]
    cases i with
    | zero => rfl
    | succ i => rw [show (i + 1) * 2 = i * 2 + 1 + 1 by omega]; simpa using ih i (by simpa using h)
theorem flatR_at1 (L : List (Int × Int)) (i : Nat) (h : i < L.length) : (flatR L)[i * 2 + 1]? = some (.int .i64 (L[i]'h).2) := by
  induction L generalizing i with
  | nil => simp at h
  | cons x L ih =>
    rw [flatR_cons]
    cases i with
    | zero => rfl
    | succ i => rw [show (i + 1) * 2 + 1 = i * 2 + 1 + 1 + 1 by omega]; simpa using ih i (by simpa using h)
theorem addr0 {g j : Nat} : (⟨g, 0, none⟩ : Addr).add j = ⟨g, j, none⟩ := by
  unfold Addr.add
  split <;> simp_all
theorem addr1 {g q j : Nat} : (⟨g, q, none⟩ : Addr).add j = ⟨g, q + j, none⟩ := by
  unfold Addr.add
  split <;> simp_all
theorem row_slice {w : World} {base : Nat} {e : TypeId} {sz n : Nat} {v : Value} {xs : List Value} (h : w.ownsRow base e sz v n xs) : ∃ a m c, v = .slice a m c := by
  rcases h.2 with ⟨rfl, _⟩ | ⟨g, cap, cur, rfl, _⟩
  · exact ⟨_, _, _, rfl⟩
  · exact ⟨_, _, _, rfl⟩
theorem own_past {w w' : World} {base : Nat} {e : TypeId} {sz n : Nat} {v : Value} {xs : List Value} {L : List Nat} (h : w.ownsRow base e sz v n xs) (hg : turned w w' L) (hL : ∀ g, v.ownBlock = some g → g ∉ L) : w'.ownsRow base e sz v n xs := by
  refine ⟨h.1, ?_⟩
  rcases h.2 with hn | ⟨g, cap, cur, rfl, hb, hgg, rest⟩
  · exact Or.inl hn
  · exact Or.inr ⟨g, cap, cur, rfl, hb, (hg.2.2.2.2 g (lt_of_block hgg) (hL g rfl)).trans hgg, rest⟩
theorem flatR_take (L : List (Int × Int)) (i : Nat) (h : i ≤ L.length) : ∀ (j : Nat) (u : Value), (flatR (L.take i))[j]? = some u → (flatR L)[j]? = some u := by
  intro j u hu
  conv => lhs; rw [← List.take_append_drop i L, flatR_app]
  rw [List.getElem?_append_left (List.getElem?_eq_some_iff.1 hu).1]
  exact hu
theorem flatR_drop (L : List (Int × Int)) (i : Nat) (h : i ≤ L.length) : ∀ (j : Nat) (u : Value), (flatR (L.drop i))[j]? = some u → (flatR L)[i * 2 + j]? = some u := by
  intro j u hu
  conv => lhs; rw [← List.take_append_drop i L, flatR_app]
  have hl : (flatR (L.take i)).length = i * 2 := by rw [flatR_len, List.length_take]; omega
  rw [List.getElem?_append_right (by omega), hl, show i * 2 + j - i * 2 = j by omega]
  exact hu
theorem drp_at (L : List (Int × Int)) (hp : L.Pairwise (fun a b => a.1 ≠ b.1)) (i : Nat) (h : i < L.length) (x : Int × Int) (hx : L[i]'h = x) : L.take i ++ L.drop (i + 1) = drp x.1 L := by
  have e : L = L.take i ++ x :: L.drop (i + 1) := by rw [← hx, ← List.drop_eq_getElem_cons h, List.take_append_drop]
  generalize L.take i = l1 at e
  generalize L.drop (i + 1) = l2 at e
  clear hx
  subst e
  obtain ⟨h1, h2, h3⟩ := List.pairwise_append.1 hp
  obtain ⟨h4, h5⟩ := List.pairwise_cons.1 h2
  have e1 : drp x.1 l1 = l1 := drp_none fun y hy => h3 y hy x (by simp)
  have e2 : drp x.1 l2 = l2 := drp_none fun y hy => (h4 y hy).symm
  unfold drp at *
  rw [List.filter_append, List.filter_cons, if_neg (by simp), e1, e2]

/-- Block b is the document's table whose row is L. -/
def refIs (base : Nat) (w : World) (b : Nat) (sv : Value) (L : List (Int × Int)) : Prop :=
  obj w b 29 [sv] ∧ w.ownsRow base 78 2 sv L.length (flatR L) ∧ L.Pairwise (fun a b => a.1 ≠ b.1) ∧ base ≤ w.heap.size
theorem refIs.ne {base : Nat} {w : World} {b : Nat} {sv : Value} {L : List (Int × Int)} (h : refIs base w b sv L) : sv.ownBlock ≠ some b := by
  obtain ⟨h1, h2, _⟩ := h
  intro e
  rcases h2.2 with ⟨rfl, _⟩ | ⟨g, cap, cur, rfl, _, hg, _⟩
  · cases e
  · simp [Value.ownBlock] at e
    subst e
    unfold obj at h1
    rw [h1] at hg
    simp only [Option.some.injEq, Obj.cells.injEq] at hg
    exact absurd hg.2.1 (by decide)
theorem refIs.past {base : Nat} {w w' : World} {b : Nat} {sv : Value} {L : List (Int × Int)} {M : List Nat} (h : refIs base w b sv L) (t : turned w w' M) (hb : b ∉ M) (hs : ∀ g, sv.ownBlock = some g → g ∉ M) : refIs base w' b sv L := by
  obtain ⟨h1, h2, h3, h4⟩ := h
  refine ⟨h1.past t hb, ⟨h2.1, ?_⟩, h3, Nat.le_trans h4 t.2.2.2.1⟩
  rcases h2.2 with hn | ⟨g, cap, cur, rfl, hb', hgg, rest⟩
  · exact Or.inl hn
  · exact Or.inr ⟨g, cap, cur, rfl, hb', (t.2.2.2.2 g (lt_of_block hgg) (hs g rfl)).trans hgg, rest⟩
theorem refIs.form {base : Nat} {w : World} {b : Nat} {sv : Value} {L : List (Int × Int)} (h : refIs base w b sv L) : ∃ a cap, sv = .slice a L.length cap ∧ L.length ≤ cap ∧ cap ≤ maxLen ∧ (0 < L.length → ∃ g, a = some ⟨g, 0, none⟩) := by
  rcases h.2.1.2 with ⟨rfl, h0⟩ | ⟨g, cap, cur, rfl, _, _, h1, h2, _⟩
  · exact ⟨none, 0, by rw [h0], by omega, by decide, by omega⟩
  · exact ⟨_, cap, rfl, h1, h2, fun _ => ⟨g, rfl⟩⟩
theorem refIs.drewN {base : Nat} {w : World} {b : Nat} {sv : Value} {L : List (Int × Int)} (h : refIs base w b sv L) (n : Nat) : refIs base (w.drewN n) b sv L := h
theorem info78 : (Try.prog.info? 78).map (fun i => (i.zero, i.size, i.bytes)) = some (some (.agg #[.int .i64 0, .int .i64 0]), 2, 16) := by kernel_rfl

set_option maxHeartbeats 4000000 in
theorem rat (base b : Nat) (sv : Value) (L : List (Int × Int)) (k : Int) (w : World) (h : refIs base w b sv L) (hL : L.length ≤ 4611686018427387904) :
    Calls Try.prog 37 #[.pointer (some ⟨b, 0, none⟩), .int .i64 k] w fun e w' => w = w' ∧ ∃ r : Int, e = .returned (.int .i64 r) ∧ ((r = -1 ∧ ∀ x, x ∈ L → x.1 ≠ k) ∨ ∃ (i : Nat) (hi : i < L.length), r = (i : Int) ∧ (L[i]'hi).1 = k) := by
  obtain ⟨a, cap, rfl, hc1, hc2, hform⟩ := h.form
  have c0 := h.1.cell 0 rfl
  have HO := Lib.hid h.2.1
  have hcap : cap ≤ 9223372036854775807 := hc2
  clear h hc2
  go_enter Try.func37, Try.ntmps37
  go_wp2
  go_loopw [5] (fun i wr => wr = w ∧ ∃ j : Nat, j ≤ L.length ∧ i = .int .i64 (j : Int) ∧ ∀ t (ht : t < L.length), t < j → (L[t]'ht).1 ≠ k) (fun i _ => L.length - (intOf i).toNat)
  case atStart => exact ⟨rfl, 0, Nat.zero_le _, rfl, fun t ht h => absurd h (Nat.not_lt_zero t)⟩
  case round =>
    obtain ⟨rfl, j, hj, rfl, hall⟩ := hrel
    have HALL := Lib.hid hall
    clear hall
    by_cases hlt : j < L.length
    · obtain ⟨g, rfl⟩ := hform (by omega)
      have e0 := HO.out.cellAt (j * 2) (by omega)
      rw [flatR_at0 L j hlt] at e0
      by_cases hk : (L[j]'hlt).1 = k
      · go_wp2
        go_ret
        exact ⟨by trivial, _, rfl, Or.inr ⟨j, hlt, rfl, hk⟩⟩
      · go_wp2
        go_roundw
        case rel => exact ⟨by trivial, j + 1, by omega, by go_num, fun t ht h => by
          by_cases e : t = j
          · subst e; exact hk
          · exact HALL.out t ht (by omega)⟩
        case measure => simp only [intOf]; omega
    · go_wp2
      go_ret
      refine ⟨by trivial, _, rfl, Or.inl ⟨rfl, fun x hx => ?_⟩⟩
      obtain ⟨t, ht, rfl⟩ := List.getElem_of_mem hx
      exact HALL.out t ht (by omega)

/-- What a step leaves of the document's table. -/
def RefDid (base : Nat) (w w' : World) (b : Nat) (sv : Value) (L' : List (Int × Int)) : Prop :=
  ∃ sv', refIs base w' b sv' L' ∧ turned w w' (b :: sv.ownBlock.toList) ∧ ∀ g, sv'.ownBlock = some g → sv.ownBlock = some g ∨ w.heap.size ≤ g
set_option maxHeartbeats 8000000 in
theorem rstop_no (base b : Nat) (sv : Value) (L : List (Int × Int)) (k : Int) (w : World) (h : refIs base w b sv L) (hL : L.length ≤ 1000000) (hk : ∀ x, x ∈ L → x.1 ≠ k) :
    Calls Try.prog 15 #[.pointer (some ⟨b, 0, none⟩), .int .i64 k] w fun e w' => e = .returned (.bool false) ∧ w = w' := by
  have hc := rat base b sv L k w h (by omega)
  go_enter Try.func15, Try.ntmps15
  go_wp2_with fail
  refine hc.mono ?_
  rintro e w1 ⟨rfl, r, rfl, hr⟩
  have : r = -1 := by
    rcases hr with ⟨h, _⟩ | ⟨i, hi, _, h2⟩
    · exact h
    · exact absurd h2 (hk _ (List.getElem_mem hi))
  subst this
  go_wp2
  go_ret
  exact ⟨rfl, rfl⟩
set_option maxRecDepth 100000 in
set_option maxHeartbeats 8000000 in
theorem rstop (base b : Nat) (sv : Value) (L : List (Int × Int)) (k : Int) (w : World) (h : refIs base w b sv L) (hL : L.length ≤ 1000000) (hk : ∃ x, x ∈ L ∧ x.1 = k) :
    Calls Try.prog 15 #[.pointer (some ⟨b, 0, none⟩), .int .i64 k] w fun e w' => e = .returned (.bool true) ∧ RefDid base w w' b sv (drp k L) := by
  have hc := rat base b sv L k w h (by omega)
  have H := Lib.hid h
  obtain ⟨a, cap, rfl, hc1, hc2, hform⟩ := h.form
  obtain ⟨x0, hx0, _⟩ := hk
  have hpos := List.length_pos_of_mem hx0
  obtain ⟨g, rfl⟩ := hform hpos
  have hcap : cap ≤ 9223372036854775807 := hc2
  obtain ⟨i0, hi0, hz0, hz1, hz2⟩ := info_parts info78
  clear h hform hc2
  go_enter Try.func15, Try.ntmps15
  go_wp2_with fail
  refine hc.mono ?_
  rintro e w1 ⟨rfl, r, rfl, hr⟩
  obtain ⟨i, hi, rfl, hik⟩ : ∃ (i : Nat) (hi : i < L.length), r = (i : Int) ∧ (L[i]'hi).1 = k := by
    rcases hr with ⟨_, h⟩ | h
    · exact absurd ‹x0.1 = k› (h x0 hx0)
    · exact h
  clear hr
  have c0 := H.out.1.cell 0 rfl
  go_wp2_with (first
    | (at_builtin; refine wpList_append_own_at _ rfl _ _ 27 rfl base 78 i0 (.agg #[.int .i64 0, .int .i64 0]) 2 16 Try.underlying27 hi0 hz0 hz1 hz2 rfl (by decide) _ 0 [] rfl (World.ownsRow_nil _ base 78 2) ⟨g, 0, none⟩ i cap (flatR (L.take i)) rfl (by rw [flatR_len, List.length_take]; omega) ?c1 (flatR_one _) (by unfold maxLen; omega) (by omega) H.out.2.2.2 ?_)
    | go_in)
  case c1 =>
    intro j u hu
    rw [addr0]
    have hj := (List.getElem?_eq_some_iff.1 hu).1
    rw [flatR_len, List.length_take] at hj
    rw [H.out.2.1.cellAt j (by omega)]
    exact flatR_take L i (by omega) j u hu
  intro v1 w2 ho1 hg1 hf1 hl1
  have hne1 : v1.ownBlock ≠ some b := by
    rcases hl1 with e | e <;> rw [e]
    · simp [Value.ownBlock]
    · have := H.out.1.lt; simp; omega
  have t1 : turned w w2 [] := turned_none (by simpa [Value.ownBlock] using hg1)
  have HO1 := Lib.hid (show w2.ownsRow base 78 2 v1 i (flatR (L.take i)) by simpa using ho1)
  clear ho1
  have HR := Lib.hid (H.out.past t1 (by simp) (by simp))
  have c0' := HR.out.1.cell 0 rfl
  by_cases hic : i + 1 = cap
  · subst hic
    go_wp2_with (first
      | (at_builtin; refine wpList_append_own_at _ rfl _ _ 27 rfl base 78 i0 (.agg #[.int .i64 0, .int .i64 0]) 2 16 Try.underlying27 hi0 hz0 hz1 hz2 rfl (by decide) _ i (flatR (L.take i)) rfl HO1.out ⟨g, 0, none⟩ 0 0 [] rfl (by simp) (by intro j u hu; simp at hu) (by intro u hu; cases hu) (by unfold maxLen; omega) (by omega) HR.out.2.2.2 ?_)
      | go_in)
    intro v2 w3 ho2 hg2 hf2 hl2
    obtain ⟨a3, m3, c3, rfl⟩ := row_slice ho2
    have hne2 : (Value.slice a3 m3 c3).ownBlock ≠ some b := by
      rcases hl2 with e | e <;> rw [e]
      · exact hne1
      · have := HR.out.1.lt; simp; omega
    have ob3 := HR.out.1.kept hg2 (fun e => hne1 e.symm)
    have c0'' := ob3.cell 0 rfl
    have f0'' := ob3.free 0
    have t2 : turned w w3 [] := turned_grown t1 hg2 (fun q hq => by
      rcases hl1 with e | e <;> rw [e] at hq
      · cases hq
      · right; cases hq; exact Nat.le_refl _)
    have HO2 := Lib.hid (show w3.ownsRow base 78 2 (.slice a3 m3 c3) (i + (L.length - (i + 1))) (flatR (L.take i) ++ flatR (L.drop (i + 1))) by
      rw [show L.length - (i + 1) = 0 by omega, List.drop_eq_nil_of_le (by omega)]
      simpa [flatR] using ho2)
    have OB3 := Lib.hid ob3
    clear ho2 hf1 hf2 ob3
    go_wp2
    go_ret
    have ts : turned w3 (w3.setCell ⟨b, 0, none⟩ (.slice a3 m3 c3)) [b] := turned_set (turned_refl w3 [b]) (List.mem_singleton.2 rfl) _
    refine ⟨rfl, .slice a3 m3 c3, ⟨OB3.out.set 0 _, ?_, H.out.2.2.1.filter _, Nat.le_trans H.out.2.2.2 (turned_trans (turned_more t2 (by simp)) ts).2.2.2.1⟩, turned_trans (turned_more t2 (by simp)) (turned_more ts (by simp)), fun q hq => ?_⟩
    · have e := drp_at L H.out.2.2.1 i hi _ rfl
      rw [hik] at e
      have hlen : (drp k L).length = i + (L.length - (i + 1)) := by rw [← e, List.length_append, List.length_take, List.length_drop]; omega
      rw [hlen, ← e, flatR_app]
      have := HO2.out
      exact own_past this ts (fun q hq e => hne2 (by rw [hq, List.mem_singleton.1 e]))
    · rcases hl2 with e | e
      · rw [e] at hq
        rcases hl1 with e1 | e1 <;> rw [e1] at hq
        · cases hq
        · right; cases hq; exact Nat.le_refl _
      · rw [e] at hq; cases hq; right; exact t1.2.2.2.1
  · go_wp2_with (first
      | (at_builtin; refine wpList_append_own_at _ rfl _ _ 27 rfl base 78 i0 (.agg #[.int .i64 0, .int .i64 0]) 2 16 Try.underlying27 hi0 hz0 hz1 hz2 rfl (by decide) _ i (flatR (L.take i)) rfl HO1.out ⟨g, (i + 1) * 2, none⟩ (L.length - (i + 1)) (cap - (i + 1)) (flatR (L.drop (i + 1))) rfl (by rw [flatR_len, List.length_drop]) ?c1 (flatR_one _) (by unfold maxLen; omega) (by omega) HR.out.2.2.2 ?_)
      | go_in)
    case c1 =>
      intro j u hu
      have hj := (List.getElem?_eq_some_iff.1 hu).1
      rw [flatR_len, List.length_drop] at hj
      rw [addr1, HR.out.2.1.cellAt ((i + 1) * 2 + j) (by omega)]
      exact flatR_drop L (i + 1) (by omega) j u hu
    intro v2 w3 ho2 hg2 hf2 hl2
    obtain ⟨a3, m3, c3, rfl⟩ := row_slice ho2
    have hne2 : (Value.slice a3 m3 c3).ownBlock ≠ some b := by
      rcases hl2 with e | e <;> rw [e]
      · exact hne1
      · have := HR.out.1.lt; simp; omega
    have ob3 := HR.out.1.kept hg2 (fun e => hne1 e.symm)
    have c0'' := ob3.cell 0 rfl
    have f0'' := ob3.free 0
    have t2 : turned w w3 [] := turned_grown t1 hg2 (fun q hq => by
      rcases hl1 with e | e <;> rw [e] at hq
      · cases hq
      · right; cases hq; exact Nat.le_refl _)
    have HO2 := Lib.hid (show w3.ownsRow base 78 2 (.slice a3 m3 c3) (i + (L.length - (i + 1))) (flatR (L.take i) ++ flatR (L.drop (i + 1))) by simpa using ho2)
    have OB3 := Lib.hid ob3
    clear ho2 hf1 hf2 ob3
    go_wp2
    go_ret
    have ts : turned w3 (w3.setCell ⟨b, 0, none⟩ (.slice a3 m3 c3)) [b] := turned_set (turned_refl w3 [b]) (List.mem_singleton.2 rfl) _
    refine ⟨rfl, .slice a3 m3 c3, ⟨OB3.out.set 0 _, ?_, H.out.2.2.1.filter _, Nat.le_trans H.out.2.2.2 (turned_trans (turned_more t2 (by simp)) ts).2.2.2.1⟩, turned_trans (turned_more t2 (by simp)) (turned_more ts (by simp)), fun q hq => ?_⟩
    · have e := drp_at L H.out.2.2.1 i hi _ rfl
      rw [hik] at e
      have hlen : (drp k L).length = i + (L.length - (i + 1)) := by rw [← e, List.length_append, List.length_take, List.length_drop]; omega
      rw [hlen, ← e, flatR_app]
      have := HO2.out
      exact own_past this ts (fun q hq e => hne2 (by rw [hq, List.mem_singleton.1 e]))
    · rcases hl2 with e | e
      · rw [e] at hq
        rcases hl1 with e1 | e1 <;> rw [e1] at hq
        · cases hq
        · right; cases hq; exact Nat.le_refl _
      · rw [e] at hq; cases hq; right; exact t1.2.2.2.1

theorem drp_le (k : Int) (L : List (Int × Int)) : (drp k L).length ≤ L.length := List.length_filter_le _ _
theorem new_pair (w : World) (x : Int × Int) : ∀ (j : Nat) (u : Value), (cR x)[j]? = some u → (w.alloc (.cells #[.int .i64 x.1, .int .i64 x.2] 78)).cell? ((⟨w.heap.size, 0, none⟩ : Addr).add j) = some u := by
  intro j u hu
  rw [addr0]
  exact (obj.new w 78 [.int .i64 x.1, .int .i64 x.2]).cell j hu
set_option maxRecDepth 100000 in
set_option maxHeartbeats 8000000 in
theorem rset (base b : Nat) (sv : Value) (L : List (Int × Int)) (k t : Int) (w : World) (h : refIs base w b sv L) (hL : L.length ≤ 1000000) :
    Calls Try.prog 13 #[.pointer (some ⟨b, 0, none⟩), .int .i64 k, .int .i64 t] w fun e w' => e = .returned (.tuple #[]) ∧ RefDid base w w' b sv (drp k L ++ [(k, t)]) := by
  have hs : Calls Try.prog 15 #[.pointer (some ⟨b, 0, none⟩), .int .i64 k] w fun e w' => (∃ r : Bool, e = .returned (.bool r)) ∧ RefDid base w w' b sv (drp k L) := by
    by_cases hk : ∃ x, x ∈ L ∧ x.1 = k
    · exact (rstop base b sv L k w h hL hk).mono (fun e w' ⟨h1, h2⟩ => ⟨⟨_, h1⟩, h2⟩)
    · have hk' : ∀ x, x ∈ L → x.1 ≠ k := fun x hx e => hk ⟨x, hx, e⟩
      refine (rstop_no base b sv L k w h hL hk').mono ?_
      rintro e w' ⟨h1, rfl⟩
      exact ⟨⟨_, h1⟩, sv, by rw [drp_none hk']; exact h, turned_refl _ _, fun g hg => Or.inl hg⟩
  have hLd := drp_le k L
  have hno : ∀ x, x ∈ drp k L → x.1 ≠ k := fun x hx => (mem_drp.1 hx).2
  generalize drp k L = M at hs hLd hno ⊢
  obtain ⟨i0, hi0, hz0, hz1, hz2⟩ := info_parts info78
  clear h
  go_enter Try.func13, Try.ntmps13
  go_wp2_with fail
  refine hs.mono ?_
  rintro e w1 ⟨⟨r, rfl⟩, sv1, h1, t1, f1⟩
  have H1 := Lib.hid h1
  obtain ⟨a1, cap1, rfl, hc1, hc2, hform⟩ := h1.form
  have c0 := (h1.1.alloc (.cells #[.int .i64 k, .int .i64 t] 78)).cell 0 rfl
  have c0w := h1.1.cell 0 rfl
  have hcap : cap1 ≤ 9223372036854775807 := hc2
  have hne1 := h1.ne
  have T1 := Lib.hid t1
  have F1 := Lib.hid f1
  clear h1 hc2 t1 f1 hform
  go_wp2_with (first
    | (at_builtin; refine wpList_append_own_at _ rfl _ _ 27 rfl base 78 i0 (.agg #[.int .i64 0, .int .i64 0]) 2 16 Try.underlying27 hi0 hz0 hz1 hz2 rfl (by decide) _ M.length (flatR M) rfl (H1.out.2.1.alloc _) ⟨w1.heap.size, 0, none⟩ 1 1 (cR (k, t)) rfl rfl (new_pair w1 (k, t)) (by intro u hu; simp [cR] at hu; rcases hu with rfl | rfl <;> rfl) (by unfold maxLen; omega) (by omega) (by have := H1.out.2.2.2; simp; omega) ?_)
    | go_in)
  intro v2 w3 ho2 hg2 hf2 hl2
  obtain ⟨a3, m3, c3, rfl⟩ := row_slice ho2
  have hne2 : (Value.slice a3 m3 c3).ownBlock ≠ some b := by
    rcases hl2 with e | e <;> rw [e]
    · exact hne1
    · have := H1.out.1.lt; simp; omega
  have ob3 := (H1.out.1.alloc (.cells #[.int .i64 k, .int .i64 t] 78)).kept hg2 (fun e => hne1 e.symm)
  have c0'' := ob3.cell 0 rfl
  have f0'' := ob3.free 0
  have t2 : turned w1 w3 (Value.slice a1 M.length cap1).ownBlock.toList := turned_grown (turned_alloc (turned_refl w1 _) _) hg2 (fun q hq => Or.inl (by simp [hq]))
  have HO2 := Lib.hid (show w3.ownsRow base 78 2 (.slice a3 m3 c3) (M.length + 1) (flatR (M ++ [(k, t)])) by rw [flatR_app]; simpa [flatR] using ho2)
  have OB3 := Lib.hid ob3
  clear ho2 hf2 ob3
  go_wp2
  go_end0
  have ts : turned w3 (w3.setCell ⟨b, 0, none⟩ (.slice a3 m3 c3)) [b] := turned_set (turned_refl w3 [b]) (List.mem_singleton.2 rfl) _
  have t3 : turned w1 (w3.setCell ⟨b, 0, none⟩ (.slice a3 m3 c3)) (b :: (Value.slice a1 M.length cap1).ownBlock.toList) := turned_trans (turned_more t2 (by intro q hq; simp [hq])) (turned_more ts (by simp))
  have hw := T1.out.2.2.2.1
  refine ⟨rfl, .slice a3 m3 c3, ⟨OB3.out.set 0 _, ?_, ?_, Nat.le_trans H1.out.2.2.2 t3.2.2.2.1⟩, ?_, fun q hq => ?_⟩
  · rw [List.length_append]
    exact own_past HO2.out ts (fun q hq e => hne2 (by rw [hq, List.mem_singleton.1 e]))
  · refine List.pairwise_append.2 ⟨H1.out.2.2.1, by simp, fun x hx y hy => ?_⟩
    rw [List.mem_singleton] at hy
    subst hy
    exact hno x hx
  · refine ⟨t3.1.trans T1.out.1, t3.2.1.trans T1.out.2.1, t3.2.2.1.trans T1.out.2.2.1, Nat.le_trans hw t3.2.2.2.1, fun q hq hn => ?_⟩
    refine (t3.2.2.2.2 q (Nat.lt_of_lt_of_le hq hw) (fun e => ?_)).trans (T1.out.2.2.2.2 q hq hn)
    simp only [List.mem_cons, Option.mem_toList] at e hn
    rcases e with e | e
    · exact hn (Or.inl e)
    · rcases F1.out q e with h | h
      · exact hn (Or.inr h)
      · omega
  · rcases hl2 with e | e
    · rw [e] at hq
      exact F1.out q hq
    · rw [e] at hq
      cases hq
      right
      first | omega | (simp; omega)

set_option maxRecDepth 100000 in
set_option maxHeartbeats 8000000 in
theorem rnext_nil (base b : Nat) (sv : Value) (w : World) (h : refIs base w b sv []) :
    Calls Try.prog 17 #[.pointer (some ⟨b, 0, none⟩)] w fun e w' => e = .returned (.tuple #[.int .i64 0, .int .i64 0, .bool false]) ∧ turned w w' [] := by
  obtain ⟨a, cap, rfl, hc1, hc2, hform⟩ := h.form
  have c0 := h.1.cell 0 rfl
  clear h hc1 hc2 hform
  go_enter Try.func17, Try.ntmps17
  go_wp2
  go_ret3
  exact ⟨rfl, turned_refl _ _⟩
def NRelR (base : Nat) (w : World) (b : Nat) (sv : Value) (x : Int × Int) (L : List (Int × Int)) (i : Value) (wr : World) : Prop :=
  ∃ j : Nat, 1 ≤ j ∧ j ≤ L.length + 1 ∧ i = .int .i64 (j : Int) ∧ refIs base wr b sv (x :: L) ∧ turned w wr [] ∧ obj wr w.heap.size 78 (cR ((L.take (j - 1)).foldl low x))
set_option maxRecDepth 100000 in
set_option maxHeartbeats 8000000 in
theorem rnext (base b : Nat) (sv : Value) (x : Int × Int) (L : List (Int × Int)) (w : World) (h : refIs base w b sv (x :: L)) (hL : L.length ≤ 1000000) :
    Calls Try.prog 17 #[.pointer (some ⟨b, 0, none⟩)] w fun e w' => e = .returned (.tuple #[.int .i64 (L.foldl low x).1, .int .i64 (L.foldl low x).2, .bool true]) ∧ turned w w' [] := by
  obtain ⟨a, cap, rfl, hc1, hc2, hform⟩ := h.form
  obtain ⟨g, rfl⟩ := hform (by simp)
  have c0 := h.1.cell 0 rfl
  have e0 := h.2.1.cellAt 0 (by simp)
  have e1 := h.2.1.cellAt 1 (by simp; omega)
  rw [show (flatR (x :: L))[0]? = some (.int .i64 x.1) from rfl] at e0
  rw [show (flatR (x :: L))[1]? = some (.int .i64 x.2) from rfl] at e1
  have hcap : cap ≤ 9223372036854775807 := hc2
  rw [List.length_cons] at hc1
  have H := Lib.hid h
  clear h hc2 hform
  simp only [List.length_cons] at c0
  have b0 : ((L.length : Int) + 1 == 0) = false := by simp; omega
  go_enter Try.func17, Try.ntmps17
  go_wp2
  go_loopw [6] (fun i wr => NRelR base w b (.slice (some ⟨g, 0, none⟩) (L.length + 1) cap) x L i wr) (fun i _ => L.length + 1 - (intOf i).toNat)
  case atStart =>
    have t0 : turned w (w.alloc (.cells #[.int .i64 x.1, .int .i64 x.2] 78)) [] := turned_alloc (turned_refl w []) _
    exact ⟨1, by omega, by omega, rfl, by simpa using H.out.past t0 (by simp) (by simp), t0, obj.new w 78 [.int .i64 x.1, .int .i64 x.2]⟩
  case round =>
    obtain ⟨j, hj1, hj, rfl, h1, t1, o1⟩ := hrel
    by_cases hlt : j < L.length + 1
    · obtain ⟨y, hy⟩ : ∃ y, (x :: L)[j]'(by simpa using hlt) = y := ⟨_, rfl⟩
      have hstep : (L.take j).foldl low x = low ((L.take (j - 1)).foldl low x) y := by
        obtain ⟨i, rfl⟩ : ∃ i, j = i + 1 := ⟨j - 1, by omega⟩
        have hy' : L[i]'(by omega) = y := by simpa using hy
        rw [List.take_succ_eq_append_getElem (by omega), List.foldl_append, hy']
        rfl
      obtain ⟨cur, hcur⟩ : ∃ cur, (L.take (j - 1)).foldl low x = cur := ⟨_, rfl⟩
      rw [hcur] at o1 hstep
      have c0r := h1.1.cell 0 rfl
      have e0r := h1.2.1.cellAt (j * 2) (by omega)
      have e1r := h1.2.1.cellAt (j * 2 + 1) (by omega)
      rw [flatR_at0 (x :: L) j (by simpa using hlt), hy] at e0r
      rw [flatR_at1 (x :: L) j (by simpa using hlt), hy] at e1r
      have q0 := o1.cell 0 rfl
      have q1 := o1.cell 1 rfl
      have f0 := o1.free 0
      have f1 := o1.free 1
      have H1 := Lib.hid h1
      have T1 := Lib.hid t1
      have O1 := Lib.hid o1
      have HS := Lib.hid hstep
      clear h1 t1 o1 hstep hcur hy
      by_cases hl : y.2 < cur.2
      · go_wp2
        go_quiet (fail)
        go_wp2
        have ts : turned (wr.drewN nq) (((wr.drewN nq).setCell ⟨w.heap.size, 0, none⟩ (.int .i64 y.1)).setCell ⟨w.heap.size, 1, none⟩ (.int .i64 y.2)) [w.heap.size] := turned_set (turned_set (turned_refl _ [w.heap.size]) (List.mem_singleton.2 rfl) _) (List.mem_singleton.2 rfl) _
        have tt : turned w (((wr.drewN nq).setCell ⟨w.heap.size, 0, none⟩ (.int .i64 y.1)).setCell ⟨w.heap.size, 1, none⟩ (.int .i64 y.2)) [] := by
          have := turned_trans (turned_more (turned_drewN' nq T1.out) (by simp)) ts
          exact ⟨this.1, this.2.1, this.2.2.1, this.2.2.2.1, fun q hq _ => this.2.2.2.2 q hq (fun e => by rw [List.mem_singleton] at e; omega)⟩
        go_roundw
        case rel =>
          refine ⟨j + 1, by omega, by omega, by go_num, ?_, tt, ?_⟩
          · have := H.out.past tt (by simp) (by simp)
            simpa using this
          · rw [show j + 1 - 1 = j by omega, HS.out, low, if_pos hl]
            exact ((O1.out.drewN nq).set 0 _).set 1 _
        case measure => simp only [intOf]; omega
      · go_wp2
        go_quiet (fail)
        go_wp2
        go_roundw
        case rel =>
          refine ⟨j + 1, by omega, by omega, by go_num, H1.out.drewN nq, turned_drewN' nq T1.out, ?_⟩
          rw [show j + 1 - 1 = j by omega, HS.out, low, if_neg (by omega)]
          exact O1.out.drewN nq
        case measure => simp only [intOf]; omega
    · have hjn : j = L.length + 1 := by omega
      subst hjn
      rw [show L.length + 1 - 1 = L.length by omega, List.take_length] at o1
      have c0r := h1.1.cell 0 rfl
      have q0 := o1.cell 0 rfl
      have q1 := o1.cell 1 rfl
      go_wp2
      go_quiet (fail)
      go_wp2
      go_ret3
      exact ⟨rfl, turned_drewN' nq t1⟩

/-- What Next tells of a row. -/
def outR : Option (Int × Int) → Value
  | none => .tuple #[.int .i64 0, .int .i64 0, .bool false]
  | some x => .tuple #[.int .i64 x.1, .int .i64 x.2, .bool true]
theorem rnext_any (base b : Nat) (sv : Value) (L : List (Int × Int)) (w : World) (h : refIs base w b sv L) (hL : L.length ≤ 1000000) :
    Calls Try.prog 17 #[.pointer (some ⟨b, 0, none⟩)] w fun e w' => e = .returned (outR (best L)) ∧ turned w w' [] := by
  cases L with
  | nil => exact rnext_nil base b sv w h
  | cons x L => exact rnext base b sv x L w h (by rw [List.length_cons] at hL; omega)
set_option maxHeartbeats 2000000 in
theorem rpop_no (base b : Nat) (sv : Value) (L : List (Int × Int)) (now : Int) (w : World) (h : refIs base w b sv L) (hL : L.length ≤ 1000000) (hb : ∀ x, best L = some x → now < x.2) :
    Calls Try.prog 19 #[.pointer (some ⟨b, 0, none⟩), .int .i64 now] w fun e w' => e = .returned (.tuple #[.int .i64 0, .bool false]) ∧ turned w w' [] := by
  have hc := rnext_any base b sv L w h hL
  clear h
  cases hbest : best L with
  | none =>
    rw [hbest] at hc
    go_enter Try.func19, Try.ntmps19
    go_wp2_with fail
    refine hc.mono ?_
    rintro e w1 ⟨rfl, t1⟩
    unfold outR
    go_wp2
    go_ret2
    exact ⟨rfl, t1⟩
  | some x =>
    rw [hbest] at hc
    have hlt := hb x hbest
    go_enter Try.func19, Try.ntmps19
    go_wp2_with fail
    refine hc.mono ?_
    rintro e w1 ⟨rfl, t1⟩
    unfold outR
    go_wp2
    go_ret2
    exact ⟨rfl, t1⟩
set_option maxHeartbeats 2000000 in
theorem rpop (base b : Nat) (sv : Value) (L : List (Int × Int)) (x : Int × Int) (now : Int) (w : World) (h : refIs base w b sv L) (hL : L.length ≤ 1000000) (hbest : best L = some x) (hle : x.2 ≤ now) :
    Calls Try.prog 19 #[.pointer (some ⟨b, 0, none⟩), .int .i64 now] w fun e w' => e = .returned (.tuple #[.int .i64 x.1, .bool true]) ∧ RefDid base w w' b sv (drp x.1 L) := by
  have hc := rnext_any base b sv L w h hL
  rw [hbest] at hc
  have hm := best_mem hbest
  have HH := Lib.hid h
  clear h
  go_enter Try.func19, Try.ntmps19
  go_wp2_with fail
  refine hc.mono ?_
  rintro e w1 ⟨rfl, t1⟩
  unfold outR
  have h1 := Lib.hid (HH.out.past t1 (by simp) (by simp))
  go_wp2_with fail
  refine (rstop base b sv L x.1 w1 h1.out hL ⟨x, hm, rfl⟩).mono ?_
  rintro e w2 ⟨rfl, sv2, h2, t2, f2⟩
  have H2 := Lib.hid h2
  clear h2
  go_wp2
  go_ret2
  have hs := t1.2.2.2.1
  exact ⟨rfl, sv2, H2.out, turned_trans (turned_more t1 (by simp)) t2, fun g hg => (f2 g hg).imp id (fun h => Nat.le_trans hs h)⟩

end Go.Proofs.Ytebdnciehobfaaa

