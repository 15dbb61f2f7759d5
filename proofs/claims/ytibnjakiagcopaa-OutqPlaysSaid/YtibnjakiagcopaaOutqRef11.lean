/- meant on the document's queue: it answers, and turns, as the queue's state says. Conditions: the queue lies in memory. -/
import Derived.Test.YtibnjakiagcopaaOutqRef10
namespace Go.Proofs.Ytibnjakiagcopaa
open Go.RowKit Go.Deep
set_option linter.unusedVariables false
set_option linter.unusedSimpArgs false

set_option maxHeartbeats 2000000 in
theorem rmeant (g : Nat) (G : List Nat) (S : QS) (n : Nat) (x : OD) (B : List Int) (w : World) (h : refIs w g G S) (hk : S.ok n) (hn : n ≤ 1000000) (hx : x.ok) (hB : LiesB w (.slice x.m.ba x.m.bn x.m.bc) B) (hl : B.length ≤ 140737488351232) :
    Calls Try.prog 19 #[.pointer (some ⟨g, 0, none⟩), .agg (cOD x).toArray] w fun e w' => ∃ a c G', e = .returned (.agg (told (S.act x B).2.d (.slice a (S.act x B).2.d.B.length c) (S.act x B).2.num (S.act x B).2.is (S.act x B).2.e).toArray) ∧
      LiesB w' (.slice a (S.act x B).2.d.B.length c) (S.act x B).2.d.B ∧ refIs w' g G' (S.act x B).1 ∧ grewFoot w G G' ∧ turned w w' G := by
  have hG : ∀ k, k ∈ G → k < w.heap.size := h.lt
  have hz : ∀ w', LiesB w' (.slice none 0 0) [] := fun w' => ⟨Lies.nil w' 1, by simp⟩
  have keepQ : ∀ {w1 w' : World} {G' : List Nat} {S' : QS}, turned w w1 [] → turned w1 w' G → refIs w' g G' S' → grewFoot w1 G G' → ∀ w'' M, turned w' w'' M → (∀ k, k ∈ M → w.heap.size ≤ k ∧ k < w1.heap.size) → ∃ G', refIs w'' g G' S' ∧ grewFoot w G G' := fun t t2 h1 h2 w'' M t3 hM =>
    ⟨_, h1.past t3 (fun k hkF hkM => by
      have h3 := hM k hkM
      rcases h2 k hkF with h4 | h4
      · have := hG k h4; omega
      · omega), fun k hkF => by
      rcases h2 k hkF with h4 | h4
      · exact .inl h4
      · exact .inr (Nat.le_trans t.2.2.2.1 h4)⟩
  by_cases h0 : x.k = 0
  · have hact : S.act x B = if S.err x.m.s B.length x.un = 0 then (S.put x.m.s x.m.o B x.un, ⟨DD.zero, S.many, true, 0⟩) else (S, ⟨DD.zero, 0, true, S.err x.m.s B.length x.un⟩) := by unfold QS.act; rw [if_pos h0]
    rw [hact]
    have hbn := hB.len
    by_cases he : S.err x.m.s B.length x.un = 0
    · rw [if_pos he]
      refine (meant_put (.pointer (some ⟨g, 0, none⟩)) x w G S.many 0 (fun w'' => ∃ G', refIs w'' g G' (S.put x.m.s x.m.o B x.un) ∧ grewFoot w G G') h0 hG (fun w1 t => ?_)).mono ?_
      · refine (rput g G S n x.m.s x.m.o _ B x.un w1 (h.past t (by simp)) hk hn (hB.none_ t) ⟨hx.s0, hx.s1⟩ hx.u1 he).mono ?_
        rintro e w' ⟨rfl, ⟨G', h1, h2⟩, t2⟩
        exact ⟨rfl, t2, keepQ t t2 h1 h2⟩
      · rintro e w' ⟨rfl, t, G', h1, h2⟩
        exact ⟨none, 0, G', rfl, hz w', h1, h2, t⟩
    · rw [if_neg he]
      refine (meant_put (.pointer (some ⟨g, 0, none⟩)) x w G 0 (S.err x.m.s B.length x.un) (fun w'' => ∃ G', refIs w'' g G' S ∧ grewFoot w G G') h0 hG (fun w1 t => ?_)).mono ?_
      · refine (rput_no g G S n x.m.s x.m.o _ B x.un w1 (h.past t (by simp)) hk (hB.none_ t) (by omega) ⟨hx.s0, hx.s1⟩ he).mono ?_
        rintro e w' ⟨rfl, t2⟩
        exact ⟨rfl, turned_more t2 (by simp), keepQ t (turned_more t2 (by simp)) ((h.past t (by simp)).past t2 (by simp)) (fun k hk => .inl hk)⟩
      · rintro e w' ⟨rfl, t, G', h1, h2⟩
        exact ⟨none, 0, G', rfl, hz w', h1, h2, t⟩
  by_cases h1 : x.k = 1
  · by_cases hne : S.L = [] ∨ x.n < 1
    · have hact : S.act x B = (S, TD.zero) := by
        unfold QS.act
        rw [if_neg h0, if_pos h1]
        rcases hne with h | h
        · rw [h]
        · split
          · rfl
          · rw [if_pos h]
      rw [hact]
      refine (meant_next (.pointer (some ⟨g, 0, none⟩)) x w G DD.zero 0 false 0 (fun v w'' => LiesB w'' v [] ∧ ∃ G', refIs w'' g G' S ∧ grewFoot w G G') h1 hG (fun w1 t => ?_)).mono ?_
      · refine (rnext_none g G S n x.n w1 (h.past t (by simp)) hne).mono ?_
        rintro e w' ⟨rfl, t2⟩
        exact ⟨none, 0, rfl, turned_more t2 (by simp), fun w'' M t3 hM => ⟨hz w'', keepQ t (turned_more t2 (by simp)) ((h.past t (by simp)).past t2 (by simp)) (fun k hk => .inl hk) w'' M t3 hM⟩⟩
      · rintro e w' ⟨a, c, rfl, t, hb, G', q1, q2⟩
        exact ⟨a, c, G', rfl, hb, q1, q2, t⟩
    · obtain ⟨y, L, hL⟩ : ∃ y L, S.L = y :: L := by
        cases hL : S.L with
        | nil => exact absurd (.inl hL) hne
        | cons y L => exact ⟨y, L, rfl⟩
      have hm : 1 ≤ x.n := by rcases Int.lt_or_le x.n 1 with h | h; exact absurd (.inr h) hne; exact h
      obtain ⟨k, hkk⟩ : ∃ k : Nat, k = (min x.n (y.left : Int)).toNat := ⟨_, rfl⟩
      have hkm : (k : Int) = min x.n (y.left : Int) := by omega
      have hact : S.act x B = (S.next y L k, ⟨S.piece y k, y.id, true, 0⟩) := by
        unfold QS.act
        rw [if_neg h0, if_pos h1, hL]
        simp only
        rw [if_neg (by omega), ← hkk]
      rw [hact]
      have hy := hk.it y (by rw [hL]; simp)
      have hlen : (S.piece y k).B.length = k := by
        show ((y.B.drop y.at_).take k).length = k
        have := hy.a1
        unfold IT.left at hkm
        simp
        omega
      refine (meant_next (.pointer (some ⟨g, 0, none⟩)) x w G (S.piece y k) y.id true k (fun v w'' => LiesB w'' v (S.piece y k).B ∧ ∃ G', refIs w'' g G' (S.next y L k) ∧ grewFoot w G G') h1 hG (fun w1 t => ?_)).mono ?_
      · refine (rnext g G S n x.n y L k w1 (h.past t (by simp)) hk hn hL hm hx.n1 hkm).mono ?_
        rintro e w' ⟨da, dc, rfl, hr, ⟨G', h2, h3⟩, t2⟩
        refine ⟨da, dc, rfl, t2, fun w'' M t3 hM => ⟨⟨?_, piece_bytes hy.by_⟩, keepQ t t2 h2 h3 w'' M t3 hM⟩⟩
        rw [hlen]
        exact Lies.row (row_past hr t3 (fun q hq e => by have h5 := (row_lt0 hr q hq).1; have h6 := (hM q e).2; omega))
      · rintro e w' ⟨a, c, rfl, t, hb, G', q1, q2⟩
        refine ⟨a, c, G', ?_, ?_, q1, q2, t⟩
        · rw [hlen]
        · rw [hlen]; exact hb
  by_cases h2 : x.k = 2
  · have hact : S.act x B = (S.expire x.un, ⟨(XS.zero.run x.un S.L).dd, (XS.zero.run x.un S.L).id, (XS.zero.run x.un S.L).some, 0⟩) := by unfold QS.act; rw [if_neg h0, if_neg h1, if_pos h2]
    rw [hact]
    have hxb := xs_bytes x.un S.L XS.zero (.inl rfl)
    refine (meant_expire (.pointer (some ⟨g, 0, none⟩)) x w G (XS.zero.run x.un S.L).dd (XS.zero.run x.un S.L).id (XS.zero.run x.un S.L).some (XS.zero.run x.un S.L).B.length (fun v w'' => LiesB w'' v (XS.zero.run x.un S.L).B ∧ ∃ G', refIs w'' g G' (S.expire x.un) ∧ grewFoot w G G') h2 hG (fun w1 t => ?_)).mono ?_
    · refine (rexpire g G S n x.un w1 (h.past t (by simp)) hk hn).mono ?_
      rintro e w' ⟨dv, rfl, hr, ⟨G', q2, q3⟩, t2⟩
      obtain ⟨a, c, rfl, _, _, _⟩ := row_form hr
      refine ⟨a, c, rfl, t2, fun w'' M t3 hM => ⟨⟨?_, by intro z hz; rcases hxb with e | e <;> rw [e] at hz <;> simp at hz <;> omega⟩, keepQ t t2 q2 q3 w'' M t3 hM⟩⟩
      exact Lies.row (row_past hr t3 (fun q hq e => by have h5 := (row_lt0 hr q hq).1; have h6 := (hM q e).2; omega))
    · rintro e w' ⟨a, c, rfl, t, hb, G', q1, q2⟩
      exact ⟨a, c, G', rfl, hb, q1, q2, t⟩
  by_cases h3 : x.k = 3
  · have hact : S.act x B = ({ S with used := freed S.used x.n }, TD.zero) := by unfold QS.act; rw [if_neg h0, if_neg h1, if_neg h2, if_pos h3]
    rw [hact]
    refine (meant_free (.pointer (some ⟨g, 0, none⟩)) x w G (fun w'' => ∃ G', refIs w'' g G' { S with used := freed S.used x.n } ∧ grewFoot w G G') h3 hG (fun w1 t => ?_)).mono ?_
    · refine (rfree g G S n x.n w1 (h.past t (by simp)) hk hx.n1).mono ?_
      rintro e w' ⟨rfl, q2, t2⟩
      exact ⟨rfl, t2, keepQ t t2 q2 (fun k hk => .inl hk)⟩
    · rintro e w' ⟨rfl, t, G', q1, q2⟩
      exact ⟨none, 0, G', rfl, hz w', q1, q2, t⟩
  · have hact : S.act x B = (S, TD.zero) := by unfold QS.act; rw [if_neg h0, if_neg h1, if_neg h2, if_neg h3]
    rw [hact]
    refine (meant_else (.pointer (some ⟨g, 0, none⟩)) x w h0 h1 h2 h3).mono ?_
    rintro e w' ⟨rfl, t⟩
    exact ⟨none, 0, G, rfl, hz w', h.past t (by simp), fun k hk => .inl hk, turned_more t (by simp)⟩
end Go.Proofs.Ytibnjakiagcopaa
