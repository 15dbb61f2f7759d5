/- The document's queue with its parts named; what its Next holds while it runs. No condition. -/
import Derived.Test.YtibnjakiagcopaaOutqRef4
import Derived.Deep.MidRow
namespace Go.Proofs.Ytibnjakiagcopaa
open Go.RowKit Go.Deep
set_option linter.unusedVariables false
set_option linter.unusedSimpArgs false

/-- The document's queue, its slices and items named. -/
def refP (w : World) (b : Nat) (v sv : Value) (Z : List YT) (S : QS) : Prop :=
  obj w b 76 [v, .int .i64 S.many, .int .i64 S.room, .int .i64 S.used, sv] ∧ offRow w 0 78 7 v Z.length (flat cY Z) ∧
    w.ownsRow 0 22 1 sv S.ssn.length (flat cN S.ssn) ∧ Z.map (·.2) = S.L ∧ ∀ z, z ∈ Z → byteIs w z
theorem refP.is {w : World} {b : Nat} {v sv : Value} {Z : List YT} {S : QS} (h : refP w b v sv Z S) : refIs w b (rfoot b v sv Z) S := ⟨v, sv, Z, rfl, h⟩
theorem rfoot_b (b : Nat) (v sv : Value) (Z : List YT) : b ∈ rfoot b v sv Z := by simp [rfoot]
theorem rfoot_v {b : Nat} {v sv : Value} {Z : List YT} {k : Nat} (h : v.ownBlock = some k) : k ∈ rfoot b v sv Z := by simp [rfoot, h]
theorem rfoot_sv {b : Nat} {v sv : Value} {Z : List YT} {k : Nat} (h : sv.ownBlock = some k) : k ∈ rfoot b v sv Z := by simp [rfoot, h]
theorem rfoot_z {b : Nat} {v sv : Value} {Z : List YT} {z : YT} {k : Nat} (hz : z ∈ Z) (h : z.1.ownBlock = some k) : k ∈ rfoot b v sv Z := by
  simp only [rfoot, List.mem_cons, List.mem_append, List.mem_flatMap, Option.mem_toList]
  exact .inr (.inr (.inr ⟨z, hz, h⟩))
theorem refP.past {w w' : World} {b : Nat} {v sv : Value} {Z : List YT} {S : QS} {L : List Nat} (h : refP w b v sv Z S) (t : turned w w' L) (hL : ∀ k, k ∈ rfoot b v sv Z → k ∉ L) : refP w' b v sv Z S := by
  obtain ⟨h1, h2, h3, h4, h5⟩ := h
  exact ⟨h1.past t (hL b (rfoot_b _ _ _ _)), h2.past t (fun g e => hL g (rfoot_v e)), row_past h3 t (fun g e => hL g (rfoot_sv e)), h4, fun z hz => row_past (h5 z hz) t (fun k e => hL k (rfoot_z hz e))⟩
/-- A stream's number is written. -/
theorem refP.setSsn {w w' : World} {b : Nat} {v sv : Value} {Z : List YT} {S : QS} {G : List Int} (h : refP w b v sv Z S) (t : turned w w' sv.ownBlock.toList) (hr : w'.ownsRow 0 22 1 sv G.length (flat cN G)) : refP w' b v sv Z { S with ssn := G } := by
  obtain ⟨h1, h2, h3, h4, h5⟩ := h
  exact ⟨h1.past t (fun e => row_ne h3 h1 (by decide) (by simpa using e)), h2.past t (fun k e hk => off_ne_row h2 h3 (by decide) k e (by simpa using hk)), hr, h4, fun z hz => row_past (h5 z hz) t (fun k e hk => off_ne_row (offRow.of (h5 z hz)) h3 (by decide) k e (by simpa using hk))⟩
/-- The queue has another list. -/
theorem refP.newL {w : World} {b : Nat} {v v' sv : Value} {Z Z' : List YT} {S : QS} (h : refP w b v sv Z S) (hl : offRow w 0 78 7 v' Z'.length (flat cY Z')) (hy : ∀ z, z ∈ Z' → byteIs w z) : refP (w.setCell ⟨b, 0, none⟩ v') b v' sv Z' { S with L := Z'.map (·.2) } ∧ turned w (w.setCell ⟨b, 0, none⟩ v') [b] := by
  obtain ⟨h1, h2, h3, h4, h5⟩ := h
  have t : turned w (w.setCell ⟨b, 0, none⟩ v') [b] := turned_set (turned_refl _ _) (List.mem_singleton.2 rfl) _
  exact ⟨⟨h1.set 0 _, hl.past t (fun k e hk => hl.ne h1 (by decide) (by rw [e, List.mem_singleton.1 hk])), row_past h3 t (fun k e hk => row_ne h3 h1 (by decide) (by rw [e, List.mem_singleton.1 hk])), rfl, fun z hz => row_past (hy z hz) t (fun k e hk => row_ne (hy z hz) h1 (by decide) (by rw [e, List.mem_singleton.1 hk]))⟩, t⟩
/-- The cells of a list's element. -/
theorem offRow.rangeOf {w : World} {base gi off cap n : Nat} {e : TypeId} {Z : List YT} (h : offRow w base e 7 (.slice (some ⟨gi, off, none⟩) n cap) n (flat cY Z)) (i : Nat) (hi : i < Z.length) : w.rangeAt gi (off + i * 7) (cY (Z[i]'hi)) := by
  intro j u hu
  have hj : j < 7 := by have := (List.getElem?_eq_some_iff.1 hu).1; rw [cY_len] at this; exact this
  have := h.cellAt (i * 7 + j) (u := u) (by rw [flat_at cY_len Z i hi j hj]; exact hu)
  rw [← Nat.add_assoc] at this
  exact this
/-- A whole element of a slice is written. -/
theorem offRow.setFirst {w : World} {base gi off cap n : Nat} {e : TypeId} {xs : List Value} {sz : Nat} (h : offRow w base e sz (.slice (some ⟨gi, off, none⟩) n cap) n xs) (vs : List Value) (hv : vs.length = sz) (hn : 0 < n) :
    offRow (w.setCells gi off vs) base e sz (.slice (some ⟨gi, off, none⟩) n cap) n (vs ++ xs.drop sz) ∧ w.grownBy (w.setCells gi off vs) (some gi) := by
  have hl := h.1
  have hsz : sz ≤ n * sz := Nat.le_mul_of_pos_left _ hn
  rcases h.2 with ⟨h', _⟩ | ⟨g', off', cap', cur, h', hb, hg, h1, h2, h3, htake⟩
  · simp at h'
  · simp only [Value.slice.injEq, Option.some.injEq, Addr.mk.injEq, and_true, true_and] at h'
    obtain ⟨⟨rfl, rfl⟩, rfl⟩ := h'
    obtain ⟨q1, q2⟩ := setCells_block vs w off cur hg
    have hcs : n * sz ≤ cap * sz := Nat.mul_le_mul_right _ h1
    have hfit : off + vs.length ≤ cur.size := by omega
    refine ⟨⟨by rw [List.length_append, List.length_drop, hv, hl]; omega, .inr ⟨gi, off, cap, _, rfl, hb, q1, h1, h2, by rw [setL_size]; exact h3, ?_⟩⟩, q2⟩
    rw [setL_list _ _ _ hfit, List.append_assoc, List.drop_left' (by simp; omega), ← htake]
    rw [List.take_append, List.take_of_length_le (by omega), hv, List.drop_take, List.drop_drop]
/-- What the document's Next holds while it runs: the queue, its copy x of the front, the piece d, its result; nothing but new blocks, and the queue's, turned. -/
structure RN (w0 w : World) (b : Nat) (v sv : Value) (Z : List YT) (S : QS) (xs ds : List Value) : Prop where
  p : refP w b v sv Z S
  x : obj w (w0.heap.size + 1) 78 xs
  d : obj w (w0.heap.size + 1 + 1) 34 ds
  r : obj w w0.heap.size 34 [.int .u32 0, .int .u16 0, .int .u16 0, .bool false, .bool false, .bool false, .slice none 0 0]
  lt : ∀ k, k ∈ rfoot b v sv Z → k < w0.heap.size
  t : turned w0 w (rfoot b v sv Z)
section
variable {w0 w w' : World} {b : Nat} {v sv : Value} {Z : List YT} {S : QS} {xs ds : List Value}
theorem RN.later {L : List Nat} (h : RN w0 w b v sv Z S xs ds) (t : turned w w' L) (hL : ∀ k, k ∈ L → w0.heap.size + 1 + 1 < k) : RN w0 w' b v sv Z S xs ds :=
  ⟨h.p.past t (fun k hk e => by have := h.lt k hk; have := hL k e; omega), h.x.past t (fun e => by have := hL _ e; omega), h.d.past t (fun e => by have := hL _ e; omega), h.r.past t (fun e => by have := hL _ e; omega), h.lt,
    turned_narrow (M := rfoot b v sv Z) (turned_trans (turned_more h.t (fun k hk => List.mem_append_left L hk)) (turned_more t (fun k hk => List.mem_append_right _ hk))) (fun k hk => by
      rcases List.mem_append.1 hk with e | e
      · exact .inl e
      · have := hL k e; exact .inr (by omega))⟩
theorem RN.past (h : RN w0 w b v sv Z S xs ds) (t : turned w w' []) : RN w0 w' b v sv Z S xs ds := h.later t (by simp)
theorem RN.one {g : Nat} (h : RN w0 w b v sv Z S xs ds) (t : turned w w' [g]) (hg : w0.heap.size ≤ g) : refP w' b v sv Z S ∧ turned w0 w' (rfoot b v sv Z) :=
  ⟨h.p.past t (fun k hk e => by have := h.lt k hk; rw [List.mem_singleton.1 e] at this; omega),
    turned_narrow (M := rfoot b v sv Z) (turned_trans (turned_more h.t (fun k hk => List.mem_append_left [g] hk)) (turned_more t (fun k hk => List.mem_append_right _ hk))) (fun k hk => by
      rcases List.mem_append.1 hk with e | e
      · exact .inl e
      · rw [List.mem_singleton.1 e]; exact .inr hg)⟩
theorem RN.setX (h : RN w0 w b v sv Z S xs ds) (i : Nat) (V : Value) : RN w0 (w.setCell ⟨w0.heap.size + 1, i, none⟩ V) b v sv Z S (xs.set i V) ds ∧ turned w (w.setCell ⟨w0.heap.size + 1, i, none⟩ V) [w0.heap.size + 1] := by
  have t : turned w (w.setCell ⟨w0.heap.size + 1, i, none⟩ V) [w0.heap.size + 1] := turned_set (turned_refl _ _) (List.mem_singleton.2 rfl) _
  obtain ⟨p1, p2⟩ := h.one t (by omega)
  exact ⟨⟨p1, h.x.set i V, h.d.past t (by simp), h.r.past t (by simp), h.lt, p2⟩, t⟩
theorem RN.setD (h : RN w0 w b v sv Z S xs ds) (i : Nat) (V : Value) : RN w0 (w.setCell ⟨w0.heap.size + 1 + 1, i, none⟩ V) b v sv Z S xs (ds.set i V) ∧ turned w (w.setCell ⟨w0.heap.size + 1 + 1, i, none⟩ V) [w0.heap.size + 1 + 1] := by
  have t : turned w (w.setCell ⟨w0.heap.size + 1 + 1, i, none⟩ V) [w0.heap.size + 1 + 1] := turned_set (turned_refl _ _) (List.mem_singleton.2 rfl) _
  obtain ⟨p1, p2⟩ := h.one t (by omega)
  exact ⟨⟨p1, h.x.past t (by simp), h.d.set i V, h.r.past t (by simp; omega), h.lt, p2⟩, t⟩
theorem RN.setN {g cap : Nat} (h : RN w0 w b v (.slice (some ⟨g, 0, none⟩) S.ssn.length cap) Z S xs ds) (i : Nat) (hi : i < S.ssn.length) (V : Int) : RN w0 (w.setCell ⟨g, i, none⟩ (.int .u16 V)) b v (.slice (some ⟨g, 0, none⟩) S.ssn.length cap) Z { S with ssn := S.ssn.set i V } xs ds := by
  have t : turned w (w.setCell ⟨g, i, none⟩ (.int .u16 V)) (Value.slice (some ⟨g, 0, none⟩) S.ssn.length cap).ownBlock.toList := turned_set (turned_refl _ _) (by simp [Value.ownBlock]) _
  have hg : g < w0.heap.size := h.lt g (rfoot_sv rfl)
  have hs := (h.p.2.2.1.stored i (.int .u16 V)).1
  have e := flat_set cN_len S.ssn i hi 0 (by omega) (.int .u16 V) V rfl
  rw [Nat.mul_one, Nat.add_zero] at e
  rw [e] at hs
  have hgl : ∀ k, k ∈ (Value.slice (some ⟨g, 0, none⟩) S.ssn.length cap).ownBlock.toList → k < w0.heap.size := fun k hk => by simp [Value.ownBlock] at hk; omega
  refine ⟨h.p.setSsn t (by simpa using hs), h.x.past t (fun e => by have := hgl _ e; omega), h.d.past t (fun e => by have := hgl _ e; omega), h.r.past t (fun e => by have := hgl _ e; omega), h.lt, turned_trans h.t (turned_more t (fun k hk => rfoot_sv (by simpa using hk)))⟩
theorem RN.num {g cap : Nat} (h : RN w0 w b v (.slice (some ⟨g, 0, none⟩) S.ssn.length cap) Z S xs ds) (i : Nat) (hi : i < S.ssn.length) : w.cell? ⟨g, i, none⟩ = some (.int .u16 (S.ssn.getD i 0)) ∧ w.frozen? ⟨g, i, none⟩ = false := by
  refine ⟨?_, h.p.2.2.1.frozenAt i⟩
  refine (h.p.2.2.1.cellAt i (by omega)).trans ?_
  rw [flatN_at S.ssn i hi]
  simp [hi]
end
theorem flatY_one {w : World} {Z : List YT} (h : ∀ z, z ∈ Z → byteIs w z) : ∀ u, u ∈ flat cY Z → u.oneCell' = true := by
  intro u hu
  simp only [flat, List.mem_flatten, List.mem_map] at hu
  obtain ⟨l, ⟨z, hz, rfl⟩, hu⟩ := hu
  obtain ⟨a, c, e, _⟩ := row_form (h z hz)
  simp [cY, cIT, e] at hu
  rcases hu with rfl | rfl | rfl | rfl | rfl | rfl | rfl <;> rfl
theorem offRow.there {w : World} {base gi cap n : Nat} {e : TypeId} {Z : List YT} (h : offRow w base e 7 (.slice (some ⟨gi, 0, none⟩) n cap) n (flat cY Z)) (h0 : 0 < Z.length) : w.there gi 0 7 := by
  intro j hj
  have := h.rangeOf 0 h0 j ((cY (Z[0]'h0))[j]'(by rw [cY_len]; exact hj)) (List.getElem?_eq_getElem _)
  rw [show 0 + 0 * 7 + j = 0 + j by omega] at this
  exact ⟨by rw [this]; rfl, h.free _⟩
end Go.Proofs.Ytibnjakiagcopaa
