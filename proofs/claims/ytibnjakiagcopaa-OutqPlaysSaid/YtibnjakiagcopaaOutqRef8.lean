/- What the document's Expire holds while it runs. No condition. -/
import Derived.Test.YtibnjakiagcopaaOutqRef7
namespace Go.Proofs.Ytibnjakiagcopaa
open Go.RowKit Go.Deep
set_option linter.unusedVariables false
set_option linter.unusedSimpArgs false

theorem refP.setUsed {w : World} {b : Nat} {v sv : Value} {Z : List YT} {S : QS} (h : refP w b v sv Z S) (V : Int) : refP (w.setCell ⟨b, 3, none⟩ (.int .i64 V)) b v sv Z { S with used := V } ∧ turned w (w.setCell ⟨b, 3, none⟩ (.int .i64 V)) [b] := by
  obtain ⟨h1, h2, h3, h4, h5⟩ := h
  have t : turned w (w.setCell ⟨b, 3, none⟩ (.int .i64 V)) [b] := turned_set (turned_refl _ _) (List.mem_singleton.2 rfl) _
  exact ⟨⟨h1.set 3 _, h2.past t (fun g e k => h2.ne h1 (by decide) (by rw [e, List.mem_singleton.1 k])), row_past h3 t (fun g e k => row_ne h3 h1 (by decide) (by rw [e, List.mem_singleton.1 k])), h4, fun z hz => row_past (h5 z hz) t (fun g e k => row_ne (h5 z hz) h1 (by decide) (by rw [e, List.mem_singleton.1 k]))⟩, t⟩
def keptY (now : Int) (Z : List YT) : List YT := Z.filter (fun z => !z.2.goes now)
theorem keptY_no {now : Int} {Z : List YT} {j : Nat} (h : j < Z.length) (hg : (Z[j]'h).2.goes now = false) : keptY now (Z.take (j + 1)) = keptY now (Z.take j) ++ [Z[j]'h] := by
  unfold keptY
  rw [List.take_succ_eq_append_getElem h, List.filter_append]
  simp [hg]
theorem keptY_yes {now : Int} {Z : List YT} {j : Nat} (h : j < Z.length) (hg : (Z[j]'h).2.goes now = true) : keptY now (Z.take (j + 1)) = keptY now (Z.take j) := by
  unfold keptY
  rw [List.take_succ_eq_append_getElem h, List.filter_append]
  simp [hg]
theorem keptY_mem {now : Int} {Z : List YT} {z : YT} (h : z ∈ keptY now Z) : z ∈ Z := (List.mem_filter.1 h).1
theorem keptY_map (now : Int) (Z : List YT) : (keptY now Z).map (·.2) = (Z.map (·.2)).filter (fun x => !x.goes now) := by
  unfold keptY
  rw [List.filter_map]
  rfl
/-- What the document's Expire holds: the queue, less what has gone; the rest so far; the piece; its result. -/
structure RE (w0 w : World) (b : Nat) (v sv : Value) (Z : List YT) (S : QS) (X : XS) (rv dv : Value) (R : List YT) : Prop where
  p : refP w b v sv Z { S with used := S.used - X.gone }
  k : w.ownsRow w0.heap.size 78 7 rv R.length (flat cY R)
  d : obj w (w0.heap.size + 1) 34 (cD X dv)
  e : w.ownsRow w0.heap.size 5 1 dv X.B.length (flat cB X.B)
  r : obj w w0.heap.size 34 [.int .u32 0, .int .u16 0, .int .u16 0, .bool false, .bool false, .bool false, .slice none 0 0]
  lt : ∀ k, k ∈ rfoot b v sv Z → k < w0.heap.size
  t : turned w0 w (rfoot b v sv Z)
section
variable {w0 w w' : World} {b : Nat} {v sv rv dv : Value} {Z R : List YT} {S : QS} {X : XS}
theorem RE.past (h : RE w0 w b v sv Z S X rv dv R) (t : turned w w' []) : RE w0 w' b v sv Z S X rv dv R :=
  ⟨h.p.past t (by simp), row_past h.k t (by simp), h.d.past t (by simp), row_past h.e t (by simp), h.r.past t (by simp), h.lt, turned_trans h.t (turned_more t (by simp))⟩
/-- One more message stays. -/
theorem RE.keep {rv' : Value} {R' : List YT} (h : RE w0 w b v sv Z S X rv dv R) (t : turned w w' rv.ownBlock.toList) (k : w'.ownsRow w0.heap.size 78 7 rv' R'.length (flat cY R')) : RE w0 w' b v sv Z S X rv' dv R' :=
  ⟨h.p.past t (fun q hq e => by have h1 := h.lt q hq; have h2 := (row_lt0 h.k q (by simpa using e)).1; omega), k, h.d.past t (fun e => row_ne h.k h.d (by decide) (by simpa using e)), row_past h.e t (fun q hq e => off_ne_row (offRow.of h.k) h.e (by decide) q (by simpa using e) hq), h.r.past t (fun e => row_ne h.k h.r (by decide) (by simpa using e)), h.lt,
    turned_narrow (M := rfoot b v sv Z) (turned_trans (turned_more h.t (fun k hk => List.mem_append_left rv.ownBlock.toList hk)) (turned_more t (fun k hk => List.mem_append_right _ hk))) (fun q hq => by
      rcases List.mem_append.1 hq with e | e
      · exact .inl e
      · exact .inr (row_lt0 h.k q (by simpa using e)).1)⟩
/-- What is used is written. -/
theorem RE.used (h : RE w0 w b v sv Z S X rv dv R) (g V : Int) (hV : V = S.used - g) : RE w0 (w.setCell ⟨b, 3, none⟩ (.int .i64 V)) b v sv Z S { X with gone := g } rv dv R := by
  subst hV
  obtain ⟨p, t⟩ := h.p.setUsed (S.used - g)
  have hb := h.lt b (rfoot_b _ _ _ _)
  exact ⟨p, row_past h.k t (fun q hq e => by have := (row_lt0 h.k q hq).1; rw [List.mem_singleton.1 e] at this; omega), h.d.past t (fun e => by have := List.mem_singleton.1 e; omega), row_past h.e t (fun q hq e => by have := (row_lt0 h.e q hq).1; rw [List.mem_singleton.1 e] at this; omega), h.r.past t (fun e => by have := List.mem_singleton.1 e; omega), h.lt, turned_trans h.t (turned_more t (fun q hq => by rw [List.mem_singleton.1 hq]; exact rfoot_b _ _ _ _))⟩
/-- The piece is written. -/
theorem RE.piece {X' : XS} {dv' : Value} (h : RE w0 w b v sv Z S X rv dv R) (t : turned w w' [w0.heap.size + 1]) (d : obj w' (w0.heap.size + 1) 34 (cD X' dv')) (e : w'.ownsRow w0.heap.size 5 1 dv' X'.B.length (flat cB X'.B)) (hg : X'.gone = X.gone) : RE w0 w' b v sv Z S X' rv dv' R :=
  ⟨by rw [hg]; exact h.p.past t (fun q hq e => by have h1 := h.lt q hq; rw [List.mem_singleton.1 e] at h1; omega), row_past h.k t (fun q hq e => row_ne h.k h.d (by decide) (by rw [hq, List.mem_singleton.1 e])), d, e, h.r.past t (fun e => by have := List.mem_singleton.1 e; omega), h.lt,
    turned_narrow (M := rfoot b v sv Z) (turned_trans (turned_more h.t (fun k hk => List.mem_append_left [w0.heap.size + 1] hk)) (turned_more t (fun k hk => List.mem_append_right _ hk))) (fun q hq => by
      rcases List.mem_append.1 hq with e | e
      · exact .inl e
      · rw [List.mem_singleton.1 e]; exact .inr (by omega))⟩
end
theorem goes_cases (x : IT) (now : Int) : (!x.goes now) = (decide (x.un < 1) || decide (now < x.un)) := by
  unfold IT.goes
  by_cases h1 : x.un < 1 <;> by_cases h2 : now < x.un <;> simp [h1, h2] <;> omega
end Go.Proofs.Ytibnjakiagcopaa
