/- The next piece of the front. Conditions: the queue lies in memory, its front is there. -/
import Derived.Test.YtibnjakiagcopaaOutqNext
import Derived.Laws.Tables
namespace Go.Proofs.Ytibnjakiagcopaa
open Go.RowKit Go.Deep
set_option linter.unusedVariables false
set_option linter.unusedSimpArgs false

/-- The number of a front's piece. -/
def QS.num (S : QS) (x : IT) : Int := if x.at_ = 0 ∧ x.o = true then S.ssn.getD x.s.toNat 0 else x.ssn
/-- The queue behind a piece of k bytes of its front x. -/
def QS.ssn' (S : QS) (x : IT) : List Int := if x.at_ = 0 ∧ x.o = true then S.ssn.set x.s.toNat ((S.ssn.getD x.s.toNat 0 + 1) % 65536) else S.ssn
def QS.next (S : QS) (x : IT) (L : List IT) (k : Nat) : QS :=
  { S with ssn := S.ssn' x, L := if x.at_ + k = x.B.length then L else { x with at_ := x.at_ + k, ssn := S.num x } :: L }
theorem turned_setRow (w : World) (g : Nat) (cs : Array Value) : turned w (w.setRow g cs) [g] := ⟨rfl, rfl, rfl, by simp, fun k hk hg => setRow_other w g k cs (fun e => hg (by simp [e]))⟩
theorem dd_old {w : World} {b : Nat} {v sv : Value} {Z : List ZT} {S : QS} (h : outP w b v sv Z S) : ∀ k, k ∈ foot b v sv Z → k ∉ [w.heap.size] := by
  intro k hk e
  have := h.is.lt k hk
  rw [List.mem_singleton.1 e] at this
  omega
def QS.begun (S : QS) (x : IT) (L : List IT) : QS := { S with ssn := S.ssn' x, L := { x with ssn := S.num x } :: L }
theorem QS.num_yes (S : QS) {x : IT} (h : x.at_ = 0 ∧ x.o = true) : S.num x = S.ssn.getD x.s.toNat 0 := if_pos h
theorem QS.ssn'_yes (S : QS) {x : IT} (h : x.at_ = 0 ∧ x.o = true) : S.ssn' x = S.ssn.set x.s.toNat ((S.ssn.getD x.s.toNat 0 + 1) % 65536) := if_pos h
theorem oleft_l (g n a l : Nat) (ba : Option Addr) (bc : Nat) (w : World) (c2 : w.cell? ⟨g, 2, none⟩ = some (.slice ba n bc)) (c5 : w.cell? ⟨g, 5, none⟩ = some (.int .i64 (a : Int))) (h1 : n ≤ 1048576) (h2 : a + l = n) :
    Calls Try.prog 28 #[.pointer (some ⟨g, 0, none⟩)] w (Reads w (.int .i64 (l : Int))) := by
  have := oleft_cells g n a ba bc w c2 c5 h1 (by omega)
  rw [show n - a = l by omega] at this
  exact this
theorem bclone_k (v : Value) (B : List Int) (k : Nat) (w : World) (hk : B.length = k) (hv : LiesB w v B) (hB : k ≤ 4000000) :
    Calls Try.prog 26 #[v] w fun e w' => ∃ a c, e = .returned (.slice a k c) ∧ w'.ownsRow w.heap.size 5 1 (.slice a k c) k (flat cB B) ∧ turned w w' [] := by
  subst hk
  exact bclone v B w hv hB
theorem onext_s (sv : Value) (G : List Int) (s : Int) (w : World) (hs : 0 ≤ s ∧ s < G.length) (hk : G.length ≤ 16) (h : w.ownsRow 0 22 1 sv G.length (flat cN G)) (hx : ∀ x, x ∈ G → 0 ≤ x ∧ x < 65536) :
    Calls Try.prog 27 #[sv, .int .u16 s] w fun e w' => e = .returned (.int .u16 (G.getD s.toNat 0)) ∧ w'.ownsRow 0 22 1 sv (G.set s.toNat ((G.getD s.toNat 0 + 1) % 65536)).length (flat cN (G.set s.toNat ((G.getD s.toNat 0 + 1) % 65536))) ∧ turned w w' sv.ownBlock.toList := by
  have hi : s.toNat < G.length := by omega
  have e : G.getD s.toNat 0 = G[s.toNat] := by simp [hi]
  have := onext_no sv G s.toNat hi w hk h (hx _ (List.getElem_mem hi))
  rw [Int.toNat_of_nonneg hs.1] at this
  rw [e, List.length_set]
  exact this
/-- The front is begun: its number is told, the piece's cells are laid out. -/
def Begun (w : World) (b : Nat) (v sv : Value) (g : Nat) (bv : Value) (x : IT) (Z' : List ZT) (S : QS) (L : List IT) (wc : World) : Prop :=
  outP wc b v sv ((g, bv, { x with ssn := S.num x }) :: Z') (S.begun x L) ∧ obj wc w.heap.size 34 [.int .u32 0, .int .u16 x.s, .int .u16 0, .bool (!x.o), .bool (decide (x.at_ = 0)), .bool false, .slice none 0 0] ∧ ∃ M, turned w wc M ∧ ∀ k, k ∈ M → k ∈ foot b v sv ((g, bv, x) :: Z') ∨ w.heap.size ≤ k
theorem Begun.same {w wc : World} {b g : Nat} {v sv bv : Value} {x : IT} {Z' : List ZT} {S : QS} {L : List IT} (hl : S.L = x :: L) (hn : ¬ (x.at_ = 0 ∧ x.o = true)) (h : outP wc b v sv ((g, bv, x) :: Z') S)
    (o : obj wc w.heap.size 34 [.int .u32 0, .int .u16 x.s, .int .u16 0, .bool (!x.o), .bool (decide (x.at_ = 0)), .bool false, .slice none 0 0]) {c : Nat} (t : turned w wc [c]) (hc : w.heap.size ≤ c) : Begun w b v sv g bv x Z' S L wc := by
  have e1 : S.num x = x.ssn := if_neg hn
  have e2 : S.begun x L = S := by
    cases S
    simp only [QS.begun, QS.ssn', if_neg hn, e1] at hl ⊢
    rw [hl]
  refine ⟨?_, o, [c], t, fun k hk => .inr (by rw [List.mem_singleton.1 hk]; exact hc)⟩
  rw [e1, e2]
  exact h
theorem Begun.made {w w4 w5 : World} {b g : Nat} {v sv bv : Value} {x : IT} {Z' : List ZT} {S : QS} {L : List IT} (hl : S.L = x :: L) (hn : x.at_ = 0 ∧ x.o = true) (h : outP w4 b v sv ((g, bv, x) :: Z') S)
    (o : obj w4 w.heap.size 34 [.int .u32 0, .int .u16 x.s, .int .u16 0, .bool (!x.o), .bool (decide (x.at_ = 0)), .bool false, .slice none 0 0]) {c : Nat} (t : turned w w4 [c]) (hc : w.heap.size ≤ c)
    (t5 : turned w4.drew w5 sv.ownBlock.toList) (p5 : outP w5 b v sv ((g, bv, x) :: Z') { S with ssn := S.ssn.set x.s.toNat ((S.ssn.getD x.s.toNat 0 + 1) % 65536) }) : Begun w b v sv g bv x Z' S L (w5.setCell ⟨g, 6, none⟩ (.int .u16 (S.ssn.getD x.s.toNat 0))) := by
  have e1 : S.num x = S.ssn.getD x.s.toNat 0 := if_pos hn
  have e2 : S.ssn' x = _ := if_pos hn
  obtain ⟨q1, q2⟩ := p5.setItem (x' := { x with ssn := S.num x }) hl 6 (.int .u16 (S.ssn.getD x.s.toNat 0)) (by rw [← e1]; rfl) rfl
  have o5 : obj w5 w.heap.size 34 _ := (o.past (turned_drew _ []) (by simp)).past t5 (fun e => row_ne (row_past h.2.2.1 (turned_drew w4 []) (by simp)) (o.past (turned_drew w4 []) (by simp)) (by decide) (by simpa using e))
  have hig := (p5.2.2.2.2.1 _ List.mem_cons_self).1
  refine ⟨?_, o5.past q2 (fun e => o5.ne hig (by decide) (List.mem_singleton.1 e)), [c] ++ (sv.ownBlock.toList ++ [g]), ?_, ?_⟩
  · unfold QS.begun
    rw [e2]
    exact q1
  · exact turned_trans (turned_more (turned_trans t (turned_more (turned_drew _ []) (by simp))) (fun k hk => List.mem_append_left _ hk)) (turned_trans (turned_more t5 (fun k hk => List.mem_append_right _ (List.mem_append_left _ hk))) (turned_more q2 (fun k hk => List.mem_append_right _ (List.mem_append_right _ hk))))
  · intro k hk
    simp only [List.mem_append, List.mem_singleton] at hk
    rcases hk with rfl | hk | rfl
    · exact .inr hc
    · exact .inl (by simp only [foot, List.mem_cons, List.mem_append]; exact .inr (.inr (.inl hk)))
    · exact .inl (item_foot (z := (k, bv, x)) List.mem_cons_self).1
theorem turned_narrow {a b : World} {L M : List Nat} (h : turned a b L) (hL : ∀ k, k ∈ L → k ∈ M ∨ a.heap.size ≤ k) : turned a b M :=
  ⟨h.1, h.2.1, h.2.2.1, h.2.2.2.1, fun k hk hM => h.2.2.2.2 k hk (fun e => by rcases hL k e with q | q; exact hM q; omega)⟩
section
variable {P : Program}
theorem exec_load_row {o : Oper} {a : Act} {w : World} (hgd : o.guard = none) (ty : TypeId) (x : Operand) (ho : o.op = .load ty x)
    (g : Nat) (hx : a.eval x = .pointer (some ⟨g, 0, none⟩)) (t : TypeId) (cs : Array Value) (fr : Nat × Nat) (d : TypeDesc) (hg : w.heap[g]? = some (.cells cs t fr))
    (hu : P.underlying ty = some d) (hd : (match d with | .struct _ | .array _ _ => true | _ => false) = true) (hi : (P.info? ty).map (·.size) = some cs.size) :
    (execOp a.eval o).run P w = .ok (.value (.agg cs)) w := by
  unfold execOp
  simp only [ho, hx, Instr.loadAt, Instr.sureAddr, Sem.run_bind, Sem.run_pure, Result.andThen_ok, run_loadVar_row w g t ty cs fr d hg hu hd hi]
end
/-- The piece is laid out, the queue is behind it. -/
def Ended (w : World) (b : Nat) (F : List Nat) (S' : QS) (g : Nat) (id : Int) (cs : List Value) (pv : Value) (k : Nat) (B : List Int) (wc : World) : Prop :=
  (∃ F', outIs wc b F' S' ∧ ∀ q, q ∈ F' → q ∈ F) ∧ obj wc w.heap.size 34 cs ∧ wc.cell? ⟨g, 3, none⟩ = some (.int .i64 id) ∧ wc.ownsRow w.heap.size 5 1 pv k (flat cB B) ∧ turned w wc F
set_option maxRecDepth 100000 in
set_option maxHeartbeats 1500000 in
theorem onext (b : Nat) (F : List Nat) (S : QS) (n : Nat) (m : Int) (x : IT) (L : List IT) (k : Nat) (w : World) (h : outIs w b F S) (hk : S.ok n) (hn : n ≤ 1000000) (hl : S.L = x :: L) (hm : 1 ≤ m) (hkm : (k : Int) = min m (x.left : Int)) :
    Calls Try.prog 11 #[.pointer (some ⟨b, 0, none⟩), .int .i64 m] w fun e w' => ∃ da dc, e = .returned (.tuple #[.agg #[.int .u32 0, .int .u16 x.s, .int .u16 (S.num x), .bool !x.o, .bool (decide (x.at_ = 0)), .bool (decide (x.at_ + k = x.B.length)), .slice da k dc], .int .i64 x.id, .bool true]) ∧
      w'.ownsRow w.heap.size 5 1 (.slice da k dc) k (flat cB ((x.B.drop x.at_).take k)) ∧ (∃ F', outIs w' b F' (S.next x L k) ∧ ∀ q, q ∈ F' → q ∈ F) ∧ turned w w' F := by
  obtain ⟨v, sv, Z, rfl, hp⟩ := h.p
  obtain ⟨g, bv, Z', rfl⟩ : ∃ g bv Z', Z = (g, bv, x) :: Z' := by
    have h4 := hp.2.2.2.1
    cases Z with
    | nil => rw [hl] at h4; simp at h4
    | cons z Z => rw [hl] at h4; simp at h4; exact ⟨z.1, z.2.1, Z, by rw [← h4.1]⟩
  obtain ⟨va, vc, rfl, hvc1, hvc2, hva⟩ := hp.2.1.form
  obtain ⟨gi, off, rfl⟩ := hva (by simp)
  obtain ⟨ba, bc, hbv, hbc1, hbc2, hba⟩ := row_form (hp.2.2.2.2.1 (g, bv, x) (by simp)).2
  simp only at hbv hbc1 hbc2 hba
  subst hbv
  have hx := hk.it x (by rw [hl]; simp)
  obtain ⟨gb, rfl⟩ := hba (by have := hx.b0; omega)
  have t0 := turned_alloc (turned_refl w []) (.cells #[.int .u32 0, .int .u16 0, .int .u16 0, .bool false, .bool false, .bool false, .slice none 0 0] 34)
  have p0 := hp.past t0 (by simp)
  have oD := obj.new w 34 [.int .u32 0, .int .u16 0, .int .u16 0, .bool false, .bool false, .bool false, .slice none 0 0]
  have hi := (p0.2.2.2.2.1 _ List.mem_cons_self).1
  have b0 := p0.1.cell 0 rfl
  have e0 := p0.2.1.cellAt 0 (u := .pointer (some ⟨g, 0, none⟩)) rfl
  rw [Nat.add_zero] at e0
  have i0 := hi.cell 0 rfl
  have i1 := hi.cell 1 rfl
  have i5 := hi.cell 5 rfl
  have d0 : ((((g, Value.slice (some ⟨gb, 0, none⟩) x.B.length bc, x) :: Z').length : Int) == 0) = false := beq_eq_false_iff_ne.2 (by simp only [List.length_cons]; omega)
  have d1 : decide (m < 1) = false := decide_eq_false (by omega)
  have d2 : 0 < ((g, Value.slice (some ⟨gb, 0, none⟩) x.B.length bc, x) :: Z').length := by simp
  have P0 := Lib.hid p0
  have T0 := Lib.hid t0
  have OD := Lib.hid oD
  have HK := Lib.hid hk
  have HX := Lib.hid hx
  have HL := Lib.hid hl
  have HP := Lib.hid hp
  have HKM := Lib.hid hkm
  have dx : ((x.at_ : Int) == 0) = decide (x.at_ = 0) := by rw [Bool.eq_iff_iff, beq_iff_eq, decide_eq_true_eq]; omega
  generalize hzn : ((g, Value.slice (some ⟨gb, 0, none⟩) x.B.length bc, x) :: Z').length = zn at *
  clear hp t0 p0 oD hi hk hx hl h hkm hva hba
  go_enter Try.func11, Try.ntmps11
  go_wp2_with fail
  obtain ⟨wd, hwd⟩ : ∃ wd, wd = (w.alloc (.cells #[.int .u32 0, .int .u16 0, .int .u16 0, .bool false, .bool false, .bool false, .slice none 0 0] 34)).drew := ⟨_, rfl⟩
  have pd : outP wd b (.slice (some ⟨gi, off, none⟩) zn vc) sv ((g, .slice (some ⟨gb, 0, none⟩) x.B.length bc, x) :: Z') S := hwd ▸ P0.out.past (turned_drew _ []) (by simp)
  have hid := (pd.2.2.2.2.1 _ List.mem_cons_self).1
  have j0 := hid.cell 0 rfl
  have j1 := hid.cell 1 rfl
  have j5 := hid.cell 5 rfl
  have PD := Lib.hid pd
  have TD := Lib.hid (show turned w wd [] from hwd ▸ turned_drew' T0.out)
  have oD : obj wd w.heap.size 34 [.int .u32 0, .int .u16 0, .int .u16 0, .bool false, .bool false, .bool false, .slice none 0 0] := hwd ▸ OD.out
  have c0 := oD.cell 0 rfl
  have c1 := oD.cell 1 rfl
  have c2 := oD.cell 2 rfl
  have c3 := oD.cell 3 rfl
  have c4 := oD.cell 4 rfl
  have c5 := oD.cell 5 rfl
  have c6 := oD.cell 6 rfl
  have f0 := oD.free 0
  have f1 := oD.free 1
  have f2 := oD.free 2
  have f3 := oD.free 3
  have f4 := oD.free 4
  have f5 := oD.free 5
  have f6 := oD.free 6
  have HWD := Lib.hid hwd
  have OD2 := Lib.hid oD
  clear hwd oD i0 i1 i5 b0 e0 pd hid
  refine region_tail 17 (by kernel_rfl) (by kernel_rfl) wd HWD.out ?_
  simp only [List.take_succ_cons, List.take_zero, List.drop_succ_cons, List.drop_zero]
  iterate 17 still_step
  refine wpStill_nil ?_
  refine wpList_store_row rfl _ _ _ rfl w.heap.size #[.int .u32 0, .int .u16 x.s, .int .u16 0, .bool (!x.o), .bool (decide (x.at_ = 0)), .bool false, .slice none 0 0] rfl rfl 34 _ OD2.out (by kernel_rfl) rfl (by rw [← Array.all_toList]; rfl) ?_
  obtain ⟨w4, hw4⟩ : ∃ w4, wd.setRow w.heap.size #[.int .u32 0, .int .u16 x.s, .int .u16 0, .bool (!x.o), .bool (decide (x.at_ = 0)), .bool false, .slice none 0 0] = w4 := ⟨_, rfl⟩
  have OD4 := Lib.hid (show obj w4 w.heap.size 34 [.int .u32 0, .int .u16 x.s, .int .u16 0, .bool (!x.o), .bool (decide (x.at_ = 0)), .bool false, .slice none 0 0] from hw4 ▸ setRow_heap wd w.heap.size _ _ _ _ OD2.out)
  have TR := Lib.hid (show turned wd w4 [w.heap.size] from hw4 ▸ turned_setRow wd w.heap.size _)
  have P4 := Lib.hid (PD.out.past TR.out (fun k hk => (dd_old HP.out k hk)))
  rw [hw4]
  clear hw4 c0 c1 c2 c3 c4 c5 c6 f0 f1 f2 f3 f4 f5 f6 j0 j1 j5
  (try simp only [Act.put])
  go_upto_region 5 with (fail)
  (try simp only [Act.put])
  go_cut [55] (fun t wc => t = .bool (decide (x.at_ = 0) && x.o) ∧ wc = w4)
  case first =>
    have hid := (P4.out.2.2.2.2.1 _ List.mem_cons_self).1
    have j1 := hid.cell 1 rfl
    have c4 := OD4.out.cell 4 rfl
    clear hid
    by_cases hf : x.at_ = 0
    · have df : decide (x.at_ = 0) = true := decide_eq_true hf
      rw [df] at c4 ⊢
      go_wp2_with fail
      go_meet
      exact ⟨by simp [hf], rfl⟩
    · have df : decide (x.at_ = 0) = false := decide_eq_false hf
      rw [df] at c4 ⊢
      go_wp2_with fail
      go_meet
      exact ⟨by simp [hf], rfl⟩
  case rest =>
  obtain ⟨rfl, rfl⟩ := hcut
  go_upto_if 55 with (fail)
  go_cut [] (fun wc => Begun w b (.slice (some ⟨gi, off, none⟩) zn vc) sv g (.slice (some ⟨gb, 0, none⟩) x.B.length bc) x Z' S L wc)
  case first =>
    have hid := (P4.out.2.2.2.2.1 _ List.mem_cons_self).1
    have j0 := hid.cell 0 rfl
    have j6 := hid.cell 6 rfl
    have k6 := hid.free 6
    have b4 := P4.out.1.cell 4 rfl
    by_cases hf : x.at_ = 0 ∧ x.o = true
    · have hss := HX.out.s0
      have hss1 := HX.out.s1
      have df : (decide (x.at_ = 0) && x.o) = true := by simp [hf.1, hf.2]
      rw [df]
      have NX := Lib.hid (S.num_yes hf)
      have SX := Lib.hid (S.ssn'_yes hf)
      have K16 := Lib.hid HK.out.k1
      have KS := Lib.hid HK.out.ks
      clear hid df
      have BM := Lib.hid (fun w5 => Begun.made (w5 := w5) HL.out hf P4.out OD4.out (turned_trans (turned_more TD.out (by simp)) TR.out) (Nat.le_refl _))
      clear hf
      go_wp2_with fail
      go_region_held3 (fun w' => w'.cell? ⟨b, 4, none⟩ = some sv ∧ w'.cell? ⟨g, 0, none⟩ = some (.int .u16 x.s)) (first | (simp [go_sem, *]; done) | assumption) (first
        | (go_at_call 27; refine (onext_s sv S.ssn x.s _ ⟨hss, hss1⟩ K16.out (row_past P4.out.2.2.1 (turned_drew _ []) (by simp)) KS.out).mono ?_; rintro e w5 ⟨rfl, hr5, t5⟩; have p5 := (P4.out.past (turned_drew _ []) (by simp)).setSsn t5 (by simp) hr5; have hid := (p5.2.2.2.2.1 _ List.mem_cons_self).1; have m0 := hid.cell 0 rfl; have m6 := hid.cell 6 rfl; have n6 := hid.free 6; have m4 := p5.1.cell 4 rfl; have P5 := Lib.hid p5; have T5 := Lib.hid t5; clear hid p5 t5 hr5))
      go_wp2_with fail
      go_meet
      have hb := BM.out _ T5.out P5.out
      rw [show S.ssn.getD x.s.toNat 0 = S.ssn[x.s.toNat]'(by omega) by simp [show x.s.toNat < S.ssn.length by omega]] at hb
      exact hb
    · have B0 := Lib.hid (show Begun w b (.slice (some ⟨gi, off, none⟩) zn vc) sv g (.slice (some ⟨gb, 0, none⟩) x.B.length bc) x Z' S L wc from .same HL.out hf P4.out OD4.out (turned_trans (turned_more TD.out (by simp)) TR.out) (Nat.le_refl _))
      have df : (decide (x.at_ = 0) && x.o) = false := by cases hh : (decide (x.at_ = 0) && x.o); rfl; exact absurd (by simpa using hh) hf
      rw [df]
      clear hid
      go_wp2_with fail
      go_meet
      exact B0.out
  case rest =>
    obtain ⟨p7, o7, M, tM, hM⟩ := hcut
    have hid := (p7.2.2.2.2.1 _ List.mem_cons_self).1
    have i2 : wc.cell? ⟨g, 2, none⟩ = some (.slice (some ⟨gb, 0, none⟩) x.B.length bc) := hid.cell 2 rfl
    have i5 : wc.cell? ⟨g, 5, none⟩ = some (.int .i64 (x.at_ : Int)) := hid.cell 5 rfl
    have hb1 := HX.out.b1
    have ha1 := HX.out.a1
    obtain ⟨lf, hlf⟩ : ∃ lf, x.at_ + lf = x.B.length := ⟨x.B.length - x.at_, by omega⟩
    have hkl : (k : Int) = min m (lf : Int) := by have := HKM.out; unfold IT.left at this; rw [this]; congr 1; omega
    obtain ⟨en, hen⟩ : ∃ en, en = x.at_ + k := ⟨_, rfl⟩
    have s7 : IntKind.i64.wrap ((x.at_ : Int) + min m (lf : Int)) = (en : Int) := by rw [← hkl, IntWalk.i64_in _ (by omega)]; omega
    have i2d : wc.drew.cell? ⟨g, 2, none⟩ = some (.slice (some ⟨gb, 0, none⟩) x.B.length bc) := i2
    have i5d : wc.drew.cell? ⟨g, 5, none⟩ = some (.int .i64 (x.at_ : Int)) := i5
    have s7a : (lf : Int) ≤ m → IntKind.i64.wrap ((x.at_ : Int) + (lf : Int)) = (en : Int) := fun h => by rw [IntWalk.i64_in _ (by omega)]; omega
    have s7b : m ≤ (lf : Int) → IntKind.i64.wrap ((x.at_ : Int) + m) = (en : Int) := fun h => by rw [IntWalk.i64_in _ (by omega)]; omega
    have S7A := Lib.hid s7a
    have S7B := Lib.hid s7b
    clear s7 s7a s7b
    have P7 := Lib.hid p7
    have O7 := Lib.hid o7
    have TM := Lib.hid tM
    have HM := Lib.hid hM
    have HKL := Lib.hid hkl
    have HEN := Lib.hid hen
    clear p7 o7 tM hM hid hkl hen
    obtain ⟨wb, hwb⟩ : ∃ wb, wb = wc := ⟨_, rfl⟩
    go_upto_region 7 with (fail)
    go_cut [8] (fun t wd => t = .int .i64 (en : Int) ∧ ∃ q, wd = wb.drewN q)
    case first =>
      go_wp2_with fail
      go_region_held3 (fun w' => w'.cell? ⟨g, 2, none⟩ = some (.slice (some ⟨gb, 0, none⟩) x.B.length bc) ∧ w'.cell? ⟨g, 5, none⟩ = some (.int .i64 (x.at_ : Int))) (first | (simp [go_sem, *]; done) | assumption) (first
        | (go_at_call 28; refine (oleft_l g x.B.length x.at_ lf _ bc _ i2d i5d hb1 hlf).mono ?_; rintro e w8 ⟨rfl, q, rfl⟩))
      all_goals go_wp2_with fail
      all_goals go_meet
      all_goals subst hwb
      all_goals first
        | exact ⟨congrArg (Value.int .i64) (S7A.out (by omega)), _, rfl⟩
        | exact ⟨congrArg (Value.int .i64) (S7B.out (by omega)), _, rfl⟩
    case rest =>
    obtain ⟨rfl, q, hq8⟩ := hcut
    subst hwb
    obtain ⟨w8, hw8⟩ : ∃ w8, w8 = wc := ⟨_, rfl⟩
    have t8 : turned wb w8 [] := by rw [hw8, hq8]; exact turned_drewN _ _ _
    have P8 := Lib.hid (P7.out.past t8 (by simp))
    have O8 := Lib.hid (O7.out.past t8 (by simp))
    have T8 := Lib.hid (turned_trans TM.out (turned_more t8 (by simp)))
    have hid := (P8.out.2.2.2.2.1 _ List.mem_cons_self)
    have j2 : w8.cell? ⟨g, 2, none⟩ = some (.slice (some ⟨gb, 0, none⟩) x.B.length bc) := hid.1.cell 2 rfl
    have j5 : w8.cell? ⟨g, 5, none⟩ = some (.int .i64 (x.at_ : Int)) := hid.1.cell 5 rfl
    have j6 : w8.cell? ⟨g, 6, none⟩ = some (.int .u16 (S.num x)) := hid.1.cell 6 rfl
    have hkn : k ≤ lf := by have := HKL.out; omega
    have henk := HEN.out
    have hen1 : (x.at_ : Int) ≤ (en : Int) := by omega
    have hen2 : (en : Int) ≤ (bc : Int) := by omega
    have hnc : ¬ bc = x.at_ := by omega
    have hnc2 : ¬ bc ≤ x.at_ := by omega
    have hnc3 : ¬ bc - x.at_ = 0 := by omega
    have hen3 : (0 : Int) ≤ (x.at_ : Int) := by omega
    have hen4 : (0 : Int) ≤ (en : Int) := by omega
    have hen5 : x.at_ ≤ en := by omega
    have hen6 : en ≤ bc := by omega
    have hek : en - x.at_ = k := by omega
    have hlen : ((x.B.drop x.at_).take k).length = k := by simp; omega
    have HLB := Lib.hid (row_part hid.2 x.at_ k (bc - x.at_) (by show x.at_ + k ≤ x.B.length; omega) (by omega) (by have : bc ≤ 9223372036854775807 := hbc2; omega) HX.out.by_)
    subst hw8
    have hk4 : k ≤ 4000000 := by omega
    have hne1 : ¬ g = w.heap.size := fun e => hid.1.ne O8.out (by decide) e
    have hne2 : ¬ w.heap.size = g := fun e => hne1 e.symm
    have HEK := Lib.hid henk
    have HLF := Lib.hid hlf
    have HLEN := Lib.hid hlen
    clear hid t8 hq8 i2 i5 i2d i5d henk hlf hlen
    go_wp2_with fail
    go_region_held3 (fun w' => w'.cell? ⟨g, 2, none⟩ = some (.slice (some ⟨gb, 0, none⟩) x.B.length bc) ∧ w'.cell? ⟨g, 5, none⟩ = some (.int .i64 (x.at_ : Int)) ∧ w'.cell? ⟨g, 6, none⟩ = some (.int .u16 (S.num x))) (first | (simp [go_sem, *]; done) | assumption) (first
      | (go_at_call 26; refine (bclone_k _ ((x.B.drop x.at_).take k) k _ HLEN.out (HLB.out.none_ (turned_drew _ [])) hk4).mono ?_; rintro e w9 ⟨da, dc, rfl, hr9, t9⟩; have p9 := P8.out.past (turned_trans (turned_drew _ []) t9) (by simp); have o9 := O8.out.past (turned_trans (turned_drew _ []) t9) (by simp); have hid := (p9.2.2.2.2.1 _ List.mem_cons_self).1; have m2 := hid.cell 2 rfl; have m5 := hid.cell 5 rfl; have m6 := hid.cell 6 rfl; have n2 := o9.cell 2 rfl; have n5 := o9.cell 5 rfl; have n6 := o9.cell 6 rfl; have g2 := o9.free 2; have g5 := o9.free 5; have g6 := o9.free 6; have P9 := Lib.hid p9; have O9 := Lib.hid o9; have T9 := Lib.hid t9; have R9 := Lib.hid hr9; clear hid p9 o9 t9 hr9))
    have e1 : ((en : Int) == (x.B.length : Int)) = decide (x.at_ + k = x.B.length) := by
      have := HEK.out
      rw [Bool.eq_iff_iff, beq_iff_eq, decide_eq_true_eq]
      omega
    rw [e1]
    have oA : obj (((w9.setCell ⟨w.heap.size, 2, none⟩ (.int .u16 (S.num x))).setCell ⟨w.heap.size, 6, none⟩ (.slice da k dc)).setCell ⟨w.heap.size, 5, none⟩ (.bool (decide (x.at_ + k = x.B.length)))) w.heap.size 34 [.int .u32 0, .int .u16 x.s, .int .u16 (S.num x), .bool (!x.o), .bool (decide (x.at_ = 0)), .bool (decide (x.at_ + k = x.B.length)), .slice da k dc] := ((O9.out.set 2 _).set 6 _).set 5 _
    have tA : turned w9 (((w9.setCell ⟨w.heap.size, 2, none⟩ (.int .u16 (S.num x))).setCell ⟨w.heap.size, 6, none⟩ (.slice da k dc)).setCell ⟨w.heap.size, 5, none⟩ (.bool (decide (x.at_ + k = x.B.length)))) [w.heap.size] := turned_set (turned_set (turned_set (turned_refl _ _) (by simp) _) (by simp) _) (by simp) _
    generalize (((w9.setCell ⟨w.heap.size, 2, none⟩ (.int .u16 (S.num x))).setCell ⟨w.heap.size, 6, none⟩ (.slice da k dc)).setCell ⟨w.heap.size, 5, none⟩ (.bool (decide (x.at_ + k = x.B.length)))) = wA at oA tA ⊢
    have PA := Lib.hid (P9.out.past tA (fun q hq e => dd_old HP.out q hq e))
    have OA := Lib.hid oA
    have TA := Lib.hid tA
    have hid := (PA.out.2.2.2.2.1 _ List.mem_cons_self).1
    have a5 : wA.cell? ⟨g, 5, none⟩ = some (.int .i64 (x.at_ : Int)) := hid.cell 5 rfl
    have a3 : wA.cell? ⟨g, 3, none⟩ = some (.int .i64 x.id) := hid.cell 3 rfl
    have f5 := hid.free 5
    have y5 := oA.cell 5 rfl
    clear hid oA tA m2 m5 m6 n2 n5 n6 g2 g5 g6 j2 j5 j6
    have hlL := HL.out
    obtain ⟨q5a, q5b⟩ := PA.out.setItem (x' := { x with ssn := S.num x, at_ := x.at_ + k }) (S := S.begun x L) rfl 5 (.int .i64 (en : Int)) (by rw [HEK.out]; rfl) rfl
    have Q5 := Lib.hid q5a
    have Q5T := Lib.hid q5b
    clear q5a q5b hlL
    have hD8 : w.heap.size < w8.heap.size := O8.out.lt
    have HR9 : ∀ q, (Value.slice da k dc).ownBlock = some q → w.heap.size < q := fun q hq => by
      have := (row_lt0 R9.out q hq).1
      have e8 : w8.drew.heap.size = w8.heap.size := rfl
      omega
    have ta : turned w w9 M := turned_trans (turned_drew' T8.out) (turned_more T9.out (by simp))
    have tb : turned w wA (M ++ [w.heap.size]) := turned_trans (turned_more ta (fun q hq => List.mem_append_left _ hq)) (turned_more TA.out (fun q hq => List.mem_append_right _ hq))
    have tc : turned w (wA.setCell ⟨g, 5, none⟩ (.int .i64 (en : Int))) ((M ++ [w.heap.size]) ++ [g]) := turned_trans (turned_more tb (fun q hq => List.mem_append_left _ hq)) (turned_more Q5T.out (fun q hq => List.mem_append_right _ hq))
    have T5 := Lib.hid (turned_narrow (M := foot b (.slice (some ⟨gi, off, none⟩) zn vc) sv ((g, .slice (some ⟨gb, 0, none⟩) x.B.length bc, x) :: Z')) tc (fun q hq => by
      simp only [List.mem_append, List.mem_singleton] at hq
      rcases hq with (hq | rfl) | rfl
      · exact HM.out q hq
      · exact .inr (Nat.le_refl _)
      · exact .inl (item_foot (z := (q, .slice (some ⟨gb, 0, none⟩) x.B.length bc, x)) List.mem_cons_self).1))
    clear ta tb tc
    have hgF := HP.out.is.lt g (item_foot (z := (g, .slice (some ⟨gb, 0, none⟩) x.B.length bc, x)) List.mem_cons_self).1
    have hbF := HP.out.is.lt b (foot_b _ _ _ _)
    have R5 := Lib.hid (row_past (row_past (row_to (b2 := w.heap.size) R9.out (by have e8 : w8.drew.heap.size = w8.heap.size := rfl; omega)) TA.out (fun q hq e => by have := HR9 q hq; rw [List.mem_singleton.1 e] at this; omega)) Q5T.out (fun q hq e => by have := HR9 q hq; rw [List.mem_singleton.1 e] at this; omega))
    have O5 := Lib.hid (OA.out.past Q5T.out (fun e => by rw [List.mem_singleton] at e; omega))
    have hi5 := (Q5.out.2.2.2.2.1 _ List.mem_cons_self).1
    have i3 := hi5.cell 3 rfl
    have HI5 := Lib.hid hi5
    have HR := Lib.hid HR9
    clear HR9 hi5
    go_upto_if 110 with (fail)
    go_cut [] (fun wc => Ended w b (foot b (.slice (some ⟨gi, off, none⟩) zn vc) sv ((g, .slice (some ⟨gb, 0, none⟩) x.B.length bc, x) :: Z')) (S.next x L k) g x.id [.int .u32 0, .int .u16 x.s, .int .u16 (S.num x), .bool (!x.o), .bool (decide (x.at_ = 0)), .bool (decide (x.at_ + k = x.B.length)), .slice da k dc] (.slice da k dc) k ((x.B.drop x.at_).take k) wc)
    case first =>
      by_cases hlast : x.at_ + k = x.B.length
      · rw [decide_eq_true hlast]
        have b0 := Q5.out.1.cell 0 rfl
        have f0 := Q5.out.1.free 0
        have z1 : (1 : Int) ≤ (zn : Int) := by omega
        have z2 : (1 : Int) ≤ (vc : Int) := by omega
        have z3 : 1 ≤ zn := by omega
        have z4 : 1 ≤ vc := by omega
        have z5 : vc ≤ 9223372036854775807 := hvc2
        have hzn' : Z'.length = zn - 1 := by have := hzn; simp only [List.length_cons] at this; omega
        by_cases hcc : vc = 1
        · have HC := Lib.hid hcc
          subst hcc
          go_wp2_with fail
          go_meet
          obtain ⟨p1, p2, p3⟩ := Q5.out.pop rfl (.slice (some ⟨gi, off, none⟩) 0 0) (by rw [hzn', show zn - 1 = 0 by omega, if_pos rfl])
          have hbg : ¬ g = b := HI5.out.ne Q5.out.1 (by decide)
          have eS : S.next x L k = { S.begun x L with L := L } := by unfold QS.next; rw [if_pos hlast]; rfl
          refine ⟨⟨_, eS ▸ p1.is, fun q hq => p3 q hq⟩, O5.out.past p2 (fun e => by rw [List.mem_singleton] at e; omega), turned_cell p2 i3 (fun e => hbg (List.mem_singleton.1 e)), row_past R5.out p2 (fun q hq e => by have := HR.out q hq; rw [List.mem_singleton.1 e] at this; omega), turned_trans T5.out (turned_more p2 (fun q hq => by rw [List.mem_singleton.1 hq]; exact foot_b _ _ _ _))⟩
        · have z6 : ¬ vc ≤ 1 := by omega
          go_wp2_with fail
          go_meet
          obtain ⟨p1, p2, p3⟩ := Q5.out.pop rfl (.slice (some ⟨gi, off + 1, none⟩) (zn - 1) (vc - 1)) (by rw [hzn', if_neg hcc])
          have hbg : ¬ g = b := HI5.out.ne Q5.out.1 (by decide)
          have eS : S.next x L k = { S.begun x L with L := L } := by unfold QS.next; rw [if_pos hlast]; rfl
          refine ⟨⟨_, eS ▸ p1.is, fun q hq => p3 q hq⟩, O5.out.past p2 (fun e => by rw [List.mem_singleton] at e; omega), turned_cell p2 i3 (fun e => hbg (List.mem_singleton.1 e)), row_past R5.out p2 (fun q hq e => by have := HR.out q hq; rw [List.mem_singleton.1 e] at this; omega), turned_trans T5.out (turned_more p2 (fun q hq => by rw [List.mem_singleton.1 hq]; exact foot_b _ _ _ _))⟩
      · rw [decide_eq_false hlast]
        go_wp2_with fail
        go_meet
        have eS : S.next x L k = { S.begun x L with L := { x with ssn := S.num x, at_ := x.at_ + k } :: L } := by unfold QS.next; rw [if_neg hlast]; rfl
        refine ⟨⟨_, eS ▸ Q5.out.is, fun q hq => hq⟩, O5.out, i3, R5.out, T5.out⟩
    case rest =>
      obtain ⟨e1, e2, e3, e4, e5⟩ := hcut
      have E1 := Lib.hid e1
      have E2 := Lib.hid e2
      have E3 := Lib.hid e3
      have E4 := Lib.hid e4
      have E5 := Lib.hid e5
      clear e1 e2 e3 e4 e5
      go_upto_region 12 with (fail)
      refine wp_region_held_drew (S := fun w' => obj w' w.heap.size 34 [.int .u32 0, .int .u16 x.s, .int .u16 (S.num x), .bool (!x.o), .bool (decide (x.at_ = 0)), .bool (decide (x.at_ + k = x.B.length)), .slice da k dc] ∧ w'.cell? ⟨g, 3, none⟩ = some (.int .i64 x.id)) (by kernel_rfl) ⟨E2.out, E3.out⟩ (fun hH => ?_)
      refine wpAnyH_take (i := 0) (v := .agg #[.int .u32 0, .int .u16 x.s, .int .u16 (S.num x), .bool (!x.o), .bool (decide (x.at_ = 0)), .bool (decide (x.at_ + k = x.B.length)), .slice da k dc]) rfl (by kernel_rfl) (by kernel_rfl) (by kernel_rfl) (fun _ _ _ h => h) (Or.inl ⟨by rfl, fun w' hS => exec_load_row rfl _ _ rfl _ rfl _ _ _ _ hS.1 Try.underlying34 rfl (by kernel_rfl)⟩) hH ?_
      (try simp only [List.getElem_toArray, List.getElem_cons_succ, List.getElem_cons_zero, Act.put, List.setIfInBounds_toArray, List.set_cons_zero, List.set_cons_succ])
      refine wpAnyH_take (i := 1) (v := .pointer (some ⟨g, 0, none⟩)) rfl (by kernel_rfl) (by kernel_rfl) (by kernel_rfl) (fun _ _ _ h => h) (Or.inl ⟨by rfl, fun w' hS => (by go_simp)⟩) hH ?_
      (try simp only [List.getElem_toArray, List.getElem_cons_succ, List.getElem_cons_zero, Act.put, List.setIfInBounds_toArray, List.set_cons_zero, List.set_cons_succ])
      refine wpAnyH_take (i := 2) (v := .pointer (some ⟨g, 0, none⟩)) rfl (by kernel_rfl) (by kernel_rfl) (by kernel_rfl) (fun _ _ _ h => h) (Or.inl ⟨by rfl, fun w' hS => (by go_simp)⟩) hH ?_
      (try simp only [List.getElem_toArray, List.getElem_cons_succ, List.getElem_cons_zero, Act.put, List.setIfInBounds_toArray, List.set_cons_zero, List.set_cons_succ])
      refine wpAnyH_take (i := 3) (v := .pointer (some ⟨g, 3, none⟩)) rfl (by kernel_rfl) (by kernel_rfl) (by kernel_rfl) (fun _ _ _ h => h) (Or.inl ⟨by rfl, fun w' hS => (by go_simp)⟩) hH ?_
      (try simp only [List.getElem_toArray, List.getElem_cons_succ, List.getElem_cons_zero, Act.put, List.setIfInBounds_toArray, List.set_cons_zero, List.set_cons_succ])
      refine wpAnyH_take (i := 4) (v := .int .i64 x.id) rfl (by kernel_rfl) (by kernel_rfl) (by kernel_rfl) (fun _ _ _ h => h) (Or.inl ⟨by rfl, fun w' hS => (by have h3 := hS.2; clear hS; go_simp)⟩) hH ?_
      (try simp only [List.getElem_toArray, List.getElem_cons_succ, List.getElem_cons_zero, Act.put, List.setIfInBounds_toArray, List.set_cons_zero, List.set_cons_succ])
      refine wpAnyH_ready (rs := [5]) (by kernel_rfl) (by simp) ?_
      refine AllReadyH.cons rfl (fun K hK => ?_) AllReadyH.nil
      rw [if_pos (by rfl)]
      simp only [List.getElem_toArray, List.getElem_cons_succ, List.getElem_cons_zero]
      refine wp_store_row 34 _ _ rfl w.heap.size #[.int .u32 0, .int .u16 x.s, .int .u16 (S.num x), .bool (!x.o), .bool (decide (x.at_ = 0)), .bool (decide (x.at_ + k = x.B.length)), .slice da k dc] rfl rfl 34 _ hH.1 (by kernel_rfl) rfl (by rw [← Array.all_toList]; rfl) ?_
      have tw := turned_setRow wc.drew w.heap.size #[.int .u32 0, .int .u16 x.s, .int .u16 (S.num x), .bool (!x.o), .bool (decide (x.at_ = 0)), .bool (decide (x.at_ + k = x.B.length)), .slice da k dc]
      refine hK.out _ _ ⟨setRow_heap wc.drew w.heap.size _ _ _ _ hH.1, turned_cell tw hH.2 (fun e => by have := List.mem_singleton.1 e; simp only at this; omega)⟩ (fun hH2 => ?_)
      clear hK
      generalize wc.drew.setRow w.heap.size #[.int .u32 0, .int .u16 x.s, .int .u16 (S.num x), .bool (!x.o), .bool (decide (x.at_ = 0)), .bool (decide (x.at_ + k = x.B.length)), .slice da k dc] = wz at tw hH2 ⊢
      (try simp only [List.getElem_toArray, List.getElem_cons_succ, List.getElem_cons_zero, Act.put, List.setIfInBounds_toArray, List.set_cons_zero, List.set_cons_succ])
      refine wpAnyH_take (i := 6) (v := .int .i64 x.id) rfl (by kernel_rfl) (by kernel_rfl) (by kernel_rfl) (fun _ _ _ h => h) (Or.inl ⟨by rfl, fun w' hS => (by go_simp)⟩) hH2 ?_
      (try simp only [List.getElem_toArray, List.getElem_cons_succ, List.getElem_cons_zero, Act.put, List.setIfInBounds_toArray, List.set_cons_zero, List.set_cons_succ])
      refine wpAnyH_take (i := 7) (v := .bool true) rfl (by kernel_rfl) (by kernel_rfl) (by kernel_rfl) (fun _ _ _ h => h) (Or.inl ⟨by rfl, fun w' hS => (by go_simp)⟩) hH2 ?_
      (try simp only [List.getElem_toArray, List.getElem_cons_succ, List.getElem_cons_zero, Act.put, List.setIfInBounds_toArray, List.set_cons_zero, List.set_cons_succ])
      refine wpAnyH_done (by kernel_rfl) ?_ _
      have HZ := Lib.hid hH2
      have TW := Lib.hid tw
      clear hH hH2 tw K
      (try simp only [Exit.inBlock, Exit.then])
      refine ‹∀ (a : Act) (w : World), Code.wp Try.prog Code.ret _ a w → _› _ _ ?_
      refine wp_ret ?_
      refine bodyPost_ret (results_cell3 rfl _ _ w.heap.size 34 #[.int .u32 0, .int .u16 x.s, .int .u16 (S.num x), .bool (!x.o), .bool (decide (x.at_ = 0)), .bool (decide (x.at_ + k = x.B.length)), .slice da k dc] (0, 0) _ rfl ?_ Try.underlying34 rfl (by kernel_rfl)) rfl ?_
      · exact HZ.out.1
      · obtain ⟨F', h1, h2⟩ := E1.out
        have hFD : ∀ q, q ∈ F' → q ∉ [w.heap.size] := fun q hq e => by
          have := HP.out.is.lt q (h2 q hq)
          rw [List.mem_singleton.1 e] at this
          omega
        have tt := turned_trans (turned_drew wc [w.heap.size]) TW.out
        refine ⟨da, dc, rfl, row_past E4.out tt (fun q hq e => by have := HR.out q hq; rw [List.mem_singleton.1 e] at this; omega), ⟨F', h1.past tt hFD, h2⟩, ?_⟩
        exact turned_narrow (turned_trans (turned_more E5.out (fun q hq => List.mem_append_left [w.heap.size] hq)) (turned_more tt (fun q hq => List.mem_append_right _ hq))) (fun q hq => by
          rcases List.mem_append.1 hq with h | h
          · exact .inl h
          · rw [List.mem_singleton.1 h]; exact .inr (Nat.le_refl _))
end Go.Proofs.Ytibnjakiagcopaa
