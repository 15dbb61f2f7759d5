/- What the program tells of a row of pieces that is one. Conditions: the pieces lie in memory; at most 1000. -/
import Derived.Test.YtdmoknijpapedaaFwdMake
import Derived.Maps.OwnOps
import Derived.StillTailTactics
namespace Go.Proofs.Ytdmoknijpapedaa
open Go.RowKit Go.Maps Go.Deep
set_option linter.unusedVariables false
set_option linter.unusedSimpArgs false

theorem map_past {w w' : World} {P : Program} {kt : TypeId} {R : Value → Option (DataW Unit × List MemPlace)} {b n : Nat} {D : DataW Unit} {L : List Nat} (h : w.ownsMap P kt R b n D) (hg : turned w w' L) (hL : b ∉ L) : w'.ownsMap P kt R b n D := by
  have hlt := h.lt
  obtain ⟨es, clock, hb, r⟩ := h
  exact ⟨es, clock, (hg.2.2.2.2 b hlt hL).trans hb, r⟩
theorem map_ne {w : World} {P : Program} {kt T : TypeId} {R : Value → Option (DataW Unit × List MemPlace)} {b m n : Nat} {D : DataW Unit} {cs : List Value} (h : obj w b T cs) (hm : w.ownsMap P kt R m n D) : b ≠ m := by
  intro e
  subst e
  obtain ⟨es, clock, hb, _⟩ := hm
  unfold obj at h
  rw [h] at hb
  cases hb
theorem map_row {w : World} {P : Program} {kt e : TypeId} {R : Value → Option (DataW Unit × List MemPlace)} {base sz m n k : Nat} {D : DataW Unit} {v : Value} {xs : List Value} (h : w.ownsRow base e sz v k xs) (hm : w.ownsMap P kt R m n D) : v.ownBlock ≠ some m := by
  rcases h.2 with ⟨rfl, _⟩ | ⟨g, cap, cur, rfl, _, hg, _⟩
  · simp [Value.ownBlock]
  · intro he
    have : g = m := by simpa [Value.ownBlock] using he
    subst this
    obtain ⟨es, clock, hb, _⟩ := hm
    rw [hg] at hb
    cases hb

def MRel (w : World) (cum : Int) (X : List PD) (bf bm j : Nat) (sv : Value) (D : DataW Unit) (wr : World) : Prop :=
  turned w wr [] ∧ obj wr w.heap.size 27 [.int .u32 0, .slice none 0 0] ∧ obj wr bf 27 [.int .u32 (lastT X), sv] ∧
    wr.ownsRow w.heap.size 41 2 sv (told (X.take j)).length (flat cSk (told (X.take j))) ∧ wr.ownsMap Try.prog 31 (plainElem Try.prog 3) bm j D ∧ At D (told (X.take j)) ∧ w.heap.size < bf ∧ w.heap.size < bm
theorem MRel.skip {w : World} {cum : Int} {X : List PD} {bf bm j : Nat} {sv : Value} {D : DataW Unit} {wr : World} (h : MRel w cum X bf bm j sv D wr) (hj : j < X.length) (hu : (X[j]'hj).u = true) (o : Obj) : MRel w cum X bf bm (j + 1) sv D (wr.alloc o) := by
  obtain ⟨h1, h2, h3, h4, h5, h6, h7⟩ := h
  have e : told (X.take (j + 1)) = told (X.take j) := by rw [told_take X j hj, step1, if_pos hu]
  unfold MRel
  rw [e]
  exact ⟨turned_alloc h1 _, h2.alloc _, h3.alloc _, h4.alloc _, (h5.alloc _).mono (by omega), h6, h7⟩
theorem MRel.sep {w : World} {cum : Int} {X : List PD} {bf bm j : Nat} {sv : Value} {D : DataW Unit} {wr : World} (h : MRel w cum X bf bm j sv D wr) : bf ≠ bm ∧ sv.ownBlock ≠ some bf ∧ sv.ownBlock ≠ some bm ∧ sv.ownBlock ≠ some w.heap.size ∧ (∀ g, sv.ownBlock = some g → w.heap.size ≤ g) := by
  obtain ⟨h1, h2, h3, h4, h5, h6, h7⟩ := h
  exact ⟨map_ne h3 h5, row_ne h4 h3 (by decide), map_row h4 h5, row_ne h4 h2 (by decide), fun g hg => (h4.lt g hg).1⟩
theorem keyedU : Keyed Try.prog 31 := int_keyed Try.underlying31
theorem zeroInt (w : World) : (zeroValue 3).run Try.prog w = .ok (.int .i64 0) w := by kernel_rfl
theorem infoSk : (Try.prog.info? 41).map (fun i => (i.zero, i.size, i.bytes)) = some (some (.agg #[.int .u16 0, .int .u16 0]), 2, 4) := by kernel_rfl
theorem sepR {w : World} {cum : Int} {X : List PD} {bf bm j : Nat} {sv : Value} {D : DataW Unit} {wr : World} (h : MRel w cum X bf bm j sv D wr) : sv.ownBlock = none ∨ ∃ g, sv.ownBlock = some g ∧ g ≠ bf ∧ g ≠ bm ∧ w.heap.size < g := by
  obtain ⟨s1, s2, s3, s4, s5⟩ := h.sep
  cases hs : sv.ownBlock with
  | none => exact Or.inl rfl
  | some g =>
    rw [hs] at s2 s3 s4
    have := s5 g hs
    exact Or.inr ⟨g, rfl, fun e => s2 (by rw [e]), fun e => s3 (by rw [e]), by have : g ≠ w.heap.size := fun e => s4 (by rw [e]); omega⟩

/-- A stream that was not told yet. -/
theorem MRel.fresh {w : World} {cum : Int} {X : List PD} {bf bm j : Nat} {sv : Value} {D : DataW Unit} {wr wa w2 wb w3 : World} {o o2 : Obj} {v' : Value} (h : MRel w cum X bf bm j sv D wr) (hj : j < X.length) (hu : (X[j]'hj).u = false)
    (hs : ∀ e, e ∈ told (X.take j) → e.1 ≠ (X[j]'hj).s) (hkey : WideAt.IsKeyLit (.int .u16 (X[j]'hj).s)) (ea : wa = wr.alloc o) (g2 : wa.grownBy w2 (some bm)) (eb : wb = w2.alloc o2) (g3 : wb.grownBy w3 sv.ownBlock)
    (hm : w2.ownsMap Try.prog 31 (plainElem Try.prog 3) bm (j + 1) (D.put (.int .u16 (X[j]'hj).s) (.lit (.int .i64 ((told (X.take j)).length : Int)))))
    (hr : w3.ownsRow w.heap.size 41 2 v' ((told (X.take j)).length + 1) (flat cSk (told (X.take j)) ++ [.int .u16 (X[j]'hj).s, .int .u16 (X[j]'hj).n]))
    (hl : v'.ownBlock = sv.ownBlock ∨ v'.ownBlock = some wb.heap.size) :
    obj w3 bf 27 [.int .u32 (lastT X), sv] ∧ MRel w cum X bf bm (j + 1) v' (D.put (.int .u16 (X[j]'hj).s) (.lit (.int .i64 ((told (X.take j)).length : Int)))) (w3.setCell ⟨bf, 1, none⟩ v') := by
  have sep := h.sep
  have sr := sepR h
  obtain ⟨h1, h2, h3, h4, h5, h6, h7, h8⟩ := h
  have e : told (X.take (j + 1)) = told (X.take j) ++ [((X[j]'hj).s, (X[j]'hj).n)] := by rw [told_take X j hj, step1, if_neg (by simp [hu]), put1_no hs]
  subst ea eb
  have hbf : bf < (wr.alloc o).heap.size := (h3.alloc o).lt
  have hbm : bm < (wr.alloc o).heap.size := (h5.alloc o).lt
  have hsz2 := g2.size
  have hsz3 := g3.size
  have t2 : turned wr w2 [bm] := turned_grown (turned_alloc (turned_refl wr _) _) g2 (fun k e => Or.inl (by cases e; simp))
  have t3 : turned wr w3 (bm :: sv.ownBlock.toList) := turned_grown (turned_alloc (turned_more t2 (by simp)) _) g3 (fun k e => Or.inl (by simp [e]))
  have o3 : obj w3 bf 27 [.int .u32 (lastT X), sv] := h3.past t3 (by
    simp only [List.mem_cons, Option.mem_toList]
    rintro (e | e)
    · exact sep.1 e
    · exact sep.2.1 e)
  have n3 : obj w3 w.heap.size 27 [.int .u32 0, .slice none 0 0] := h2.past t3 (by
    simp only [List.mem_cons, Option.mem_toList]
    rintro (e | e)
    · omega
    · exact sep.2.2.2.1 e)
  have ts : turned w3 (w3.setCell ⟨bf, 1, none⟩ v') [bf] := turned_set (turned_refl w3 [bf]) (List.mem_singleton.2 rfl) _
  have hvb : v'.ownBlock ≠ some bf := by
    rcases hl with e1 | e1 <;> rw [e1]
    · exact sep.2.1
    · simp at hsz2 hbf ⊢; omega
  refine ⟨o3, ?_, n3.past ts (by simp; omega), o3.set 1 v', ?_, ?_, ?_, h7, h8⟩
  · have : turned w w3 [] := ⟨t3.1.trans h1.1, t3.2.1.trans h1.2.1, t3.2.2.1.trans h1.2.2.1, Nat.le_trans h1.2.2.2.1 t3.2.2.2.1, fun k hk _ => by
      rw [t3.2.2.2.2 k (Nat.lt_of_lt_of_le hk h1.2.2.2.1) (by
        simp only [List.mem_cons, Option.mem_toList]
        rintro (e | e)
        · omega
        · have := sep.2.2.2.2 k e; omega)]
      exact h1.2.2.2.2 k hk (by simp)⟩
    exact turned_setNew this (by omega) _
  · rw [e, flat_app, flat_single, List.length_append]
    exact row_past hr ts (fun g hg e => hvb (by rw [hg, List.mem_singleton.1 e]))
  · have m3 : w3.ownsMap Try.prog 31 (plainElem Try.prog 3) bm (j + 1) _ := (hm.alloc o2).kept g3 (fun e => sep.2.2.1 e.symm)
    exact map_past m3 ts (by simp; exact fun e => sep.1 e.symm)
  · rw [e]
    exact h6.put _ _ hs hkey
/-- A stream that was told already. -/
theorem MRel.again {w : World} {cum : Int} {X : List PD} {bf bm j k : Nat} {D : DataW Unit} {wr wa wd : World} {o : Obj} {g cap : Nat} (h : MRel w cum X bf bm j (.slice (some ⟨g, 0, none⟩) (told (X.take j)).length cap) D wr) (hj : j < X.length) (hu : (X[j]'hj).u = false)
    (hk : k < (told (X.take j)).length) (hs : ((told (X.take j))[k]'hk).1 = (X[j]'hj).s) (ea : wa = wr.alloc o) (ed : wd = wa.drew) :
    MRel w cum X bf bm (j + 1) (.slice (some ⟨g, 0, none⟩) (told (X.take j)).length cap) D (wd.setCell ⟨g, k * 2 + 1, none⟩ (.int .u16 (mx 65536 ((told (X.take j))[k]'hk).2 (X[j]'hj).n))) := by
  have sep := h.sep
  have sr := sepR h
  obtain ⟨h1, h2, h3, h4, h5, h6, h7, h8⟩ := h
  have e : told (X.take (j + 1)) = (told (X.take j)).set k ((X[j]'hj).s, mx 65536 ((told (X.take j))[k]'hk).2 (X[j]'hj).n) := by
    rw [told_take X j hj, step1, if_neg (by simp [hu]), put1_there (told_keys _) k hk hs]
  subst ea ed
  have hg : (Value.slice (some ⟨g, 0, none⟩) (told (X.take j)).length cap).ownBlock = some g := rfl
  rw [hg] at sep
  have s2 : bf ≠ g := fun e => sep.2.1 (by rw [e])
  have s3 : bm ≠ g := fun e => sep.2.2.1 (by rw [e])
  have s4 : w.heap.size ≠ g := fun e => sep.2.2.2.1 (by rw [e])
  have s5 := sep.2.2.2.2 g rfl
  have ts : turned wr (((wr.alloc o).drew).setCell ⟨g, k * 2 + 1, none⟩ (.int .u16 (mx 65536 ((told (X.take j))[k]'hk).2 (X[j]'hj).n))) [g] := turned_set (turned_drew' (turned_alloc (turned_refl wr [g]) o)) (List.mem_singleton.2 rfl) _
  refine ⟨?_, h2.past ts (by simp; exact s4), h3.past ts (by simp; exact s2), ?_, (map_past h5 ts (by simp; exact s3)).mono (by omega), ?_, h7, h8⟩
  · exact turned_setNew (turned_drew' (turned_alloc h1 o)) s5 _
  · rw [e, List.length_set]
    have := (World.ownsRow.stored (h4.alloc o) (k * 2 + 1) (.int .u16 (mx 65536 ((told (X.take j))[k]'hk).2 (X[j]'hj).n))).1
    rw [flat_set cSk_len (told (X.take j)) k hk 1 (by omega) _ ((X[j]'hj).s, mx 65536 ((told (X.take j))[k]'hk).2 (X[j]'hj).n) (by rw [← hs]; rfl)] at this
    exact this
  · rw [e, ← hs]
    exact h6.set k hk _
end Go.Proofs.Ytdmoknijpapedaa
