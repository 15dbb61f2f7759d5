/- The document's list has grown by an item. Conditions: named. -/
import Derived.Test.YtibnjakiagcopaaOutqRef3
namespace Go.Proofs.Ytibnjakiagcopaa
open Go.RowKit Go.Deep
set_option linter.unusedVariables false
set_option linter.unusedSimpArgs false

theorem rput_fin {wr w3 : World} {b : Nat} {v v' sv bv : Value} {Z : List YT} {S : QS} {x : IT} (h1 : obj wr b 76 [v, .int .i64 S.many, .int .i64 S.room, .int .i64 S.used, sv]) (h2 : offRow wr 0 78 7 v Z.length (flat cY Z)) (h3 : wr.ownsRow 0 22 1 sv S.ssn.length (flat cN S.ssn)) (h4 : Z.map (·.2) = S.L) (h5 : ∀ z, z ∈ Z → byteIs wr z)
    (hx : byteIs wr (bv, x)) (ho : offRow w3 0 78 7 v' (Z.length + 1) (flat cY Z ++ flat cY [(bv, x)])) (hg : wr.grownBy w3 v.ownBlock) :
    obj w3 b 76 [v, .int .i64 S.many, .int .i64 S.room, .int .i64 S.used, sv] ∧ refIs (w3.setCell ⟨b, 0, none⟩ v') b (rfoot b v' sv (Z ++ [(bv, x)])) { S with L := S.L ++ [x] } ∧ turned wr (w3.setCell ⟨b, 0, none⟩ v') (rfoot b v sv Z) := by
  have t3 : turned wr w3 v.ownBlock.toList := turned_grown (turned_refl _ _) hg (fun k e => .inl (by simp [e]))
  have hb : b ∉ v.ownBlock.toList := fun e => h2.ne h1 (by decide) (by simpa using e)
  have o3 := h1.past t3 hb
  have tS : turned w3 (w3.setCell ⟨b, 0, none⟩ v') [b] := turned_set (turned_refl _ _) (List.mem_singleton.2 rfl) _
  have i3 : ∀ z, byteIs wr z → byteIs w3 z := fun z hz => row_past hz t3 (fun k e hk => off_ne_row h2 hz (by decide) k (by simpa using hk) e)
  have i4 : ∀ z, byteIs w3 z → byteIs (w3.setCell ⟨b, 0, none⟩ v') z := fun z hz => row_past hz tS (fun k e hk => row_ne hz o3 (by decide) (by rw [e, List.mem_singleton.1 hk]))
  refine ⟨o3, ⟨v', sv, Z ++ [(bv, x)], rfl, o3.set 0 _, ?_, ?_, ?_, ?_⟩, turned_trans (turned_more t3 (fun k hk => ?_)) (turned_more tS (fun k hk => ?_))⟩
  · have ho' := ho.past tS (fun k e hk => ho.ne o3 (by decide) (by rw [e, List.mem_singleton.1 hk]))
    rw [flat_app, List.length_append, List.length_singleton]
    exact ho'
  · have := row_past h3 t3 (fun k e hk => off_ne_row h2 h3 (by decide) k (by simpa using hk) e)
    exact row_past this tS (fun k e hk => row_ne this o3 (by decide) (by rw [e, List.mem_singleton.1 hk]))
  · simp [h4]
  · intro z hz
    rcases List.mem_append.1 hz with hz | hz
    · exact i4 z (i3 z (h5 z hz))
    · rw [List.mem_singleton.1 hz]; exact i4 _ (i3 _ hx)
  · simp only [rfoot, List.mem_cons, List.mem_append]; exact .inr (.inl hk)
  · rw [List.mem_singleton.1 hk]; simp [rfoot]
theorem refIs.setMany {w : World} {b : Nat} {G : List Nat} {S : QS} (h : refIs w b G S) (u V : Int) (hV : V = u) : refIs (w.setCell ⟨b, 1, none⟩ (.int .i64 V)) b G { S with many := u } ∧ turned w (w.setCell ⟨b, 1, none⟩ (.int .i64 V)) G := by
  subst hV
  obtain ⟨v, sv, Z, rfl, h1, h2, h3, h4, h5⟩ := h
  have t : turned w (w.setCell ⟨b, 1, none⟩ (.int .i64 V)) [b] := turned_set (turned_refl _ _) (List.mem_singleton.2 rfl) _
  refine ⟨⟨v, sv, Z, rfl, h1.set 1 _, h2.past t (fun g e k => h2.ne h1 (by decide) (by rw [e, List.mem_singleton.1 k])), row_past h3 t (fun g e k => row_ne h3 h1 (by decide) (by rw [e, List.mem_singleton.1 k])), h4, fun z hz => row_past (h5 z hz) t (fun g e k => row_ne (h5 z hz) h1 (by decide) (by rw [e, List.mem_singleton.1 k]))⟩, turned_more t (fun k hk => by rw [List.mem_singleton.1 hk]; simp [rfoot])⟩
theorem rfoot_grew {w : World} {b : Nat} {v v' sv bv : Value} {Z : List YT} {x : IT} (h1 : v'.ownBlock = v.ownBlock ∨ ∀ k, v'.ownBlock = some k → w.heap.size ≤ k) (h3 : ∀ k, bv.ownBlock = some k → w.heap.size ≤ k) : grewFoot w (rfoot b v sv Z) (rfoot b v' sv (Z ++ [(bv, x)])) := by
  intro k hk
  simp only [rfoot, List.flatMap_append, List.flatMap_cons, List.flatMap_nil, List.append_nil, List.mem_cons, List.mem_append, Option.mem_toList] at hk ⊢
  rcases hk with rfl | hk | hk | hk | hk
  · exact .inl (.inl rfl)
  · rcases h1 with e | e
    · exact .inl (.inr (.inl (e ▸ hk)))
    · exact .inr (e k hk)
  · exact .inl (.inr (.inr (.inl hk)))
  · exact .inl (.inr (.inr (.inr hk)))
  · exact .inr (h3 k hk)
end Go.Proofs.Ytibnjakiagcopaa
