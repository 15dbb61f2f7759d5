/- does on a queue of the call's own. Conditions: the bytes are as long as the form lets them be. -/
import Derived.Test.YtibnjakiagcopaaOutqNilW
namespace Go.Proofs.Ytibnjakiagcopaa
open Go.RowKit Go.Deep
set_option linter.unusedVariables false
set_option linter.unusedSimpArgs false

/-- What is told. -/
structure TD where
  d : DD
  num : Int
  is : Bool
  e : Int
def TD.zero : TD := ⟨DD.zero, 0, false, 0⟩
def XS.dd (X : XS) : DD := ⟨0, X.s, X.n, X.u, false, X.some, X.B⟩
/-- What a thing done does. -/
def QS.act (S : QS) (x : OD) (B : List Int) : QS × TD :=
  if x.k = 0 then (if S.err x.m.s B.length x.un = 0 then (S.put x.m.s x.m.o B x.un, ⟨DD.zero, S.many, true, 0⟩) else (S, ⟨DD.zero, 0, true, S.err x.m.s B.length x.un⟩))
  else if x.k = 1 then (match S.L with
    | [] => (S, TD.zero)
    | y :: L => if x.n < 1 then (S, TD.zero) else (S.next y L (min x.n (y.left : Int)).toNat, ⟨S.piece y (min x.n (y.left : Int)).toNat, y.id, true, 0⟩))
  else if x.k = 2 then (S.expire x.un, ⟨(XS.zero.run x.un S.L).dd, (XS.zero.run x.un S.L).id, (XS.zero.run x.un S.L).some, 0⟩)
  else if x.k = 3 then ({ S with used := freed S.used x.n }, TD.zero)
  else (S, TD.zero)
theorem err_zero {S : QS} {s : Int} {len : Nat} {un : Int} (h : S.err s len un = 0) : 0 ≤ un ∧ s < S.ssn.length ∧ 1 ≤ len ∧ (len : Int) ≤ S.room ∧ S.used + len ≤ S.room := by
  unfold QS.err at h
  split at h
  · omega
  split at h
  · omega
  split at h
  · omega
  split at h
  · omega
  · omega
theorem QS.act_ok {S : QS} {n : Nat} (hk : S.ok n) (hn : n ≤ 1000000) {x : OD} (hx : x.ok) {B : List Int} (hB : bytes B) : (S.act x B).1.ok (n + 1) := by
  unfold QS.act
  split
  · split
    · rename_i h
      obtain ⟨h1, h2, h3, h4, h5⟩ := err_zero h
      exact QS.put_ok hk _ _ _ _ ⟨hx.s0, h2⟩ hB h3 h5 ⟨h1, hx.u1⟩ hn
    · exact hk.more (by omega)
  split
  · split
    · exact hk.more (by omega)
    · rename_i y L hl
      split
      · exact hk.more (by omega)
      · exact (QS.next_ok hk hl _ (by omega)).more (by omega)
  split
  · exact (QS.expire_ok hk _).more (by omega)
  split
  · exact (QS.free_ok hk _).more (by omega)
  · exact hk.more (by omega)
theorem piece_bytes {S : QS} {y : IT} {k : Nat} (h : bytes y.B) : bytes (S.piece y k).B := fun x hx => h x (List.mem_of_mem_drop (List.mem_of_mem_take hx))
theorem xs_bytes (now : Int) : ∀ (L : List IT) (X : XS), (X.B = [] ∨ X.B = [0]) → ((X.run now L).B = [] ∨ (X.run now L).B = [0]) := by
  intro L
  induction L with
  | nil => intro X h; exact h
  | cons x L ih =>
    intro X h
    refine ih (X.step now x) ?_
    unfold XS.step
    split
    · split
      · exact .inr rfl
      · exact h
    · exact h
theorem odoes_new (g : Nat) (F : List Nat) (S : QS) (n : Nat) (x : OD) (B : List Int) (w0 w : World) (h : Own w0 w g F S) (hk : S.ok n) (hn : n ≤ 1000000) (hx : x.ok) (hB : LiesB w0 (.slice x.m.ba x.m.bn x.m.bc) B) (hl : B.length ≤ 140737488351232) :
    Calls Try.prog 18 #[.pointer (some ⟨g, 0, none⟩), .agg (cOD x).toArray] w fun e w' => ∃ a c F', e = .returned (.agg (told (S.act x B).2.d (.slice a (S.act x B).2.d.B.length c) (S.act x B).2.num (S.act x B).2.is (S.act x B).2.e).toArray) ∧
      LiesB w' (.slice a (S.act x B).2.d.B.length c) (S.act x B).2.d.B ∧ Own w0 w' g F' (S.act x B).1 ∧ grewFoot w F F' ∧ turned w w' F ∧ ∀ q, (Value.slice a (S.act x B).2.d.B.length c).ownBlock = some q → w.heap.size ≤ q := by
  have hF : ∀ k, k ∈ F → k < w.heap.size := h.1.lt
  have hBW : ∀ w', turned w w' F → LiesB w' (.slice x.m.ba x.m.bn x.m.bc) B := fun w' t => hB.none_ (turned_narrow (turned_trans (turned_more h.2.2 (by simp)) t) (fun k hk => .inr (h.2.1 k hk)))
  have hB0 : LiesB w (.slice x.m.ba x.m.bn x.m.bc) B := hB.none_ h.2.2
  have fin : ∀ {w' : World} {S' : QS}, turned w w' F → (∃ F', outIs w' g F' S' ∧ grewFoot w F F') → ∃ F', Own w0 w' g F' S' ∧ grewFoot w F F' := fun t ⟨F', h1, h2⟩ => ⟨F', h.grew h1 h2 t, h2⟩
  have hz : ∀ w', LiesB w' (.slice none 0 0) [] := fun w' => ⟨Lies.nil w' 1, by simp⟩
  by_cases h0 : x.k = 0
  · have hact : S.act x B = if S.err x.m.s B.length x.un = 0 then (S.put x.m.s x.m.o B x.un, ⟨DD.zero, S.many, true, 0⟩) else (S, ⟨DD.zero, 0, true, S.err x.m.s B.length x.un⟩) := by unfold QS.act; rw [if_pos h0]
    rw [hact]
    by_cases he : S.err x.m.s B.length x.un = 0
    · rw [if_pos he]
      refine (does_put (.pointer (some ⟨g, 0, none⟩)) x B w F S.many 0 (fun w'' => ∃ F', outIs w'' g F' (S.put x.m.s x.m.o B x.un) ∧ grewFoot w F F') h0 hB0 hl hF hBW (fun w1 v t hv => ?_)).mono ?_
      · refine (oput g F S n x.m.s x.m.o v B x.un w1 (h.1.past t (by simp)) hk hn hv (by obtain ⟨_, _, _, h4, _⟩ := err_zero he; have := hk.r1; omega) ⟨hx.s0, hx.s1⟩ hx.u1 he).mono ?_
        rintro e w' ⟨rfl, ⟨F', h1, h2⟩, t2⟩
        refine ⟨rfl, t2, fun w'' M t3 hM => ⟨F', h1.past t3 (fun k hkF hkM => ?_), fun k hkF => ?_⟩⟩
        · have h3 := hM k hkM
          rcases h2 k hkF with h4 | h4
          · have := hF k h4; omega
          · omega
        · rcases h2 k hkF with h4 | h4
          · exact .inl h4
          · exact .inr (Nat.le_trans t.2.2.2.1 h4)
      · rintro e w' ⟨rfl, t, hq⟩
        obtain ⟨F', h1, h2⟩ := fin t hq
        exact ⟨none, 0, F', rfl, hz w', h1, h2, t, fun q hq => by simp [Value.ownBlock] at hq⟩
    · rw [if_neg he]
      refine (does_put (.pointer (some ⟨g, 0, none⟩)) x B w F 0 (S.err x.m.s B.length x.un) (fun w'' => ∃ F', outIs w'' g F' S ∧ grewFoot w F F') h0 hB0 hl hF hBW (fun w1 v t hv => ?_)).mono ?_
      · refine (oput_no g F S n x.m.s x.m.o v B x.un w1 (h.1.past t (by simp)) hk hv (by omega) ⟨hx.s0, hx.s1⟩ he).mono ?_
        rintro e w' ⟨rfl, t2⟩
        refine ⟨rfl, turned_more t2 (by simp), fun w'' M t3 hM => ⟨F, ((h.1.past t (by simp)).past t2 (by simp)).past t3 (fun k hkF hkM => ?_), fun k hkF => .inl hkF⟩⟩
        have h3 := hM k hkM
        have := hF k hkF
        omega
      · rintro e w' ⟨rfl, t, hq⟩
        obtain ⟨F', h1, h2⟩ := fin t hq
        exact ⟨none, 0, F', rfl, hz w', h1, h2, t, fun q hq => by simp [Value.ownBlock] at hq⟩
  by_cases h1 : x.k = 1
  · by_cases hne : S.L = [] ∨ x.n < 1
    · have hact : S.act x B = (S, TD.zero) := by
        unfold QS.act
        rw [if_neg h0, if_pos h1]
        rcases hne with h | h
        · rw [h]
        · split
          · rfl
          · rw [if_pos h]
      rw [hact]
      refine (does_next (.pointer (some ⟨g, 0, none⟩)) x w F DD.zero 0 false (fun w'' => ∃ F', outIs w'' g F' S ∧ grewFoot w F F') h1 (Nat.zero_le _) hF (fun w1 t => ?_)).mono ?_
      · refine (onext_none g F S n x.n w1 (h.1.past t (by simp)) hk hn hne).mono ?_
        rintro e w' ⟨rfl, t2⟩
        refine ⟨none, 0, rfl, World.ownsRow_nil _ _ _ _, by intro y hy; simp [DD.zero] at hy, turned_more t2 (by simp), fun w'' M t3 hM => ⟨F, ((h.1.past t (by simp)).past t2 (by simp)).past t3 (fun k hkF hkM => ?_), fun k hkF => .inl hkF⟩⟩
        have h5 := hF k hkF
        have h6 := t.2.2.2.1
        have h7 := t2.2.2.2.1
        rcases hM k hkM with h3 | h3 | h3
        · omega
        · simp [Value.ownBlock] at h3
        · omega
      · rintro e w' ⟨a, c, rfl, hb, t, hq, hfr⟩
        obtain ⟨F', q1, q2⟩ := fin t hq
        exact ⟨a, c, F', rfl, hb, q1, q2, t, hfr⟩
    · obtain ⟨y, L, hL⟩ : ∃ y L, S.L = y :: L := by
        cases hL : S.L with
        | nil => exact absurd (.inl hL) hne
        | cons y L => exact ⟨y, L, rfl⟩
      have hm : 1 ≤ x.n := by rcases Int.lt_or_le x.n 1 with h | h; exact absurd (.inr h) hne; exact h
      obtain ⟨k, hkk⟩ : ∃ k : Nat, k = (min x.n (y.left : Int)).toNat := ⟨_, rfl⟩
      have hkm : (k : Int) = min x.n (y.left : Int) := by omega
      have hact : S.act x B = (S.next y L k, ⟨S.piece y k, y.id, true, 0⟩) := by
        unfold QS.act
        rw [if_neg h0, if_pos h1, hL]
        simp only
        rw [if_neg (by omega), ← hkk]
      rw [hact]
      have hy := hk.it y (by rw [hL]; simp)
      have hlen : (S.piece y k).B.length = k := by
        show ((y.B.drop y.at_).take k).length = k
        have := hy.a1
        unfold IT.left at hkm
        simp
        omega
      refine (does_next (.pointer (some ⟨g, 0, none⟩)) x w F (S.piece y k) y.id true (fun w'' => ∃ F', outIs w'' g F' (S.next y L k) ∧ grewFoot w F F') h1 (by rw [hlen]; have := hy.b1; unfold IT.left at hkm; omega) hF (fun w1 t => ?_)).mono ?_
      · refine (onext g F S n x.n y L k w1 (h.1.past t (by simp)) hk hn hL hm hkm).mono ?_
        rintro e w' ⟨da, dc, rfl, hr, ⟨F', h2, h3⟩, t2⟩
        rw [hlen]
        refine ⟨da, dc, rfl, hr, piece_bytes hy.by_, t2, fun w'' M t3 hM => ⟨F', h2.past t3 (fun k' hkF hkM => ?_), fun k' hkF => .inl (h3 k' hkF)⟩⟩
        have h5 := hF k' (h3 k' hkF)
        have h6 := t.2.2.2.1
        have h7 := t2.2.2.2.1
        rcases hM k' hkM with h4 | h4 | h4
        · omega
        · have := (row_lt0 hr k' h4).1; omega
        · omega
      · rintro e w' ⟨a, c, rfl, hb, t, hq, hfr⟩
        obtain ⟨F', q1, q2⟩ := fin t hq
        exact ⟨a, c, F', rfl, hb, q1, q2, t, hfr⟩
  by_cases h2 : x.k = 2
  · have hact : S.act x B = (S.expire x.un, ⟨(XS.zero.run x.un S.L).dd, (XS.zero.run x.un S.L).id, (XS.zero.run x.un S.L).some, 0⟩) := by unfold QS.act; rw [if_neg h0, if_neg h1, if_pos h2]
    rw [hact]
    have hxb := xs_bytes x.un S.L XS.zero (.inl rfl)
    refine (does_expire (.pointer (some ⟨g, 0, none⟩)) x w F (XS.zero.run x.un S.L).dd (XS.zero.run x.un S.L).id (XS.zero.run x.un S.L).some (fun w'' => ∃ F', outIs w'' g F' (S.expire x.un) ∧ grewFoot w F F') h2 (by show (XS.zero.run x.un S.L).B.length ≤ _; rcases hxb with e | e <;> rw [e] <;> simp) hF (fun w1 t => ?_)).mono ?_
    · refine (oexpire g F S n x.un w1 (h.1.past t (by simp)) hk hn).mono ?_
      rintro e w' ⟨dv, rfl, hr, ⟨F', q2, q3⟩, t2⟩
      obtain ⟨a, c, rfl, _, _, _⟩ := row_form hr
      refine ⟨a, c, rfl, hr, by show bytes (XS.zero.run x.un S.L).B; intro z hz; rcases hxb with e | e <;> rw [e] at hz <;> simp at hz <;> omega, t2, fun w'' M t3 hM => ⟨F', q2.past t3 (fun k' hkF hkM => ?_), fun k' hkF => .inl (q3 k' hkF)⟩⟩
      have h5 := hF k' (q3 k' hkF)
      have h6 := t.2.2.2.1
      have h7 := t2.2.2.2.1
      rcases hM k' hkM with h4 | h4 | h4
      · omega
      · have := (row_lt0 hr k' h4).1; omega
      · omega
    · rintro e w' ⟨a, c, rfl, hb, t, hq, hfr⟩
      obtain ⟨F', q1, q2⟩ := fin t hq
      exact ⟨a, c, F', rfl, hb, q1, q2, t, hfr⟩
  by_cases h3 : x.k = 3
  · have hact : S.act x B = ({ S with used := freed S.used x.n }, TD.zero) := by unfold QS.act; rw [if_neg h0, if_neg h1, if_neg h2, if_pos h3]
    rw [hact]
    refine (does_free (.pointer (some ⟨g, 0, none⟩)) x w F (fun w'' => ∃ F', outIs w'' g F' { S with used := freed S.used x.n } ∧ grewFoot w F F') h3 hF (fun w1 t => ?_)).mono ?_
    · refine (ofree g F S n x.n w1 (h.1.past t (by simp)) hk).mono ?_
      rintro e w' ⟨rfl, q2, t2⟩
      refine ⟨rfl, t2, fun w'' M t3 hM => ⟨F, q2.past t3 (fun k' hkF hkM => ?_), fun k' hkF => .inl hkF⟩⟩
      have h5 := hF k' hkF
      have h4 := hM k' hkM
      omega
    · rintro e w' ⟨rfl, t, hq⟩
      obtain ⟨F', q1, q2⟩ := fin t hq
      exact ⟨none, 0, F', rfl, hz w', q1, q2, t, fun q hq => by simp [Value.ownBlock] at hq⟩
  · have hact : S.act x B = (S, TD.zero) := by unfold QS.act; rw [if_neg h0, if_neg h1, if_neg h2, if_neg h3]
    rw [hact]
    refine (does_else (.pointer (some ⟨g, 0, none⟩)) x w h0 h1 h2 h3).mono ?_
    rintro e w' ⟨rfl, t⟩
    exact ⟨none, 0, F, rfl, hz w', h.past t, fun k hk => .inl hk, turned_more t (by simp), fun q hq => by simp [Value.ownBlock] at hq⟩
theorem odoes (g : Nat) (F : List Nat) (S : QS) (n : Nat) (x : OD) (B : List Int) (w0 w : World) (h : Own w0 w g F S) (hk : S.ok n) (hn : n ≤ 1000000) (hx : x.ok) (hB : LiesB w0 (.slice x.m.ba x.m.bn x.m.bc) B) (hl : B.length ≤ 140737488351232) :
    Calls Try.prog 18 #[.pointer (some ⟨g, 0, none⟩), .agg (cOD x).toArray] w fun e w' => ∃ a c F', e = .returned (.agg (told (S.act x B).2.d (.slice a (S.act x B).2.d.B.length c) (S.act x B).2.num (S.act x B).2.is (S.act x B).2.e).toArray) ∧
      LiesB w' (.slice a (S.act x B).2.d.B.length c) (S.act x B).2.d.B ∧ Own w0 w' g F' (S.act x B).1 ∧ grewFoot w F F' ∧ turned w w' F := by
  refine (odoes_new g F S n x B w0 w h hk hn hx hB hl).mono ?_
  rintro e w' ⟨a, c, F', h1, h2, h3, h4, h5, _⟩
  exact ⟨a, c, F', h1, h2, h3, h4, h5⟩
end Go.Proofs.Ytibnjakiagcopaa
