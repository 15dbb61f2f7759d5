/- The methods of a ring of things of type fairlead/api.Skip. Conditions: the ring lies in memory with these things. -/
import Derived.Test.YtplbgfjemcpcpaaRing
import Derived.WalkLawsBesides
import Derived.Laws.EntriesVeiled
import Derived.Deep.AppendLies
import Derived.Deep.RegionLaw
import Derived.Outline
namespace Go.Proofs.Ytplbgfjemcpcpaa
open Go.RowKit Go.Conc
set_option linter.unusedVariables false
set_option linter.unusedSimpArgs false

def cK (x : (Int × Int)) : List Value := [(.int .u16 x.1), (.int .u16 x.2)]
theorem flatK (Q : List (Int × Int)) : ((Q.map cK).flatten).length = Q.length * 2 := by
  induction Q with
  | nil => rfl
  | cons x Q ih => rw [List.map_cons, List.flatten_cons, List.length_append, ih]; simp [cK, Nat.add_mul]; omega
theorem oneK (Q : List (Int × Int)) : ∀ u, u ∈ (Q.map cK).flatten → u.oneCell' = true := by
  intro u hu
  simp only [List.mem_flatten, List.mem_map] at hu
  obtain ⟨l, ⟨a, _, rfl⟩, hu⟩ := hu
  simp [cK] at hu
  first | (subst hu; rfl) | (rcases hu with rfl | rfl <;> rfl)
def vK (x : (Int × Int)) : Value := .agg #[.int .u16 x.1, .int .u16 x.2]
theorem flatK_at0 (Q : List (Int × Int)) (i : Nat) : ((Q.map cK).flatten)[i * 2]? = (Q[i]?).map (fun x => Value.int .u16 x.1) := by
  induction Q generalizing i with
  | nil => rfl
  | cons x Q ih =>
    cases i with
    | zero => rfl
    | succ i => rw [show (i + 1) * 2 = i * 2 + 1 + 1 by omega]; simpa [cK] using ih i
theorem flatK_at1 (Q : List (Int × Int)) (i : Nat) : ((Q.map cK).flatten)[i * 2 + 1]? = (Q[i]?).map (fun x => Value.int .u16 x.2) := by
  induction Q generalizing i with
  | nil => rfl
  | cons x Q ih =>
    cases i with
    | zero => rfl
    | succ i => rw [show (i + 1) * 2 + 1 = i * 2 + 1 + 1 + 1 by omega]; simpa [cK] using ih i
def ringK (w : World) (b : Nat) (F : List Nat) (most : Nat) (Q : List (Int × Int)) : Prop := ringIs w 81 41 2 b F most (Q.map cK)
theorem ringK.past {w w' : World} {b : Nat} {F L : List Nat} {most : Nat} {Q : List (Int × Int)} (h : ringK w b F most Q) (hg : turned w w' L) (hL : ∀ k, k ∈ F → k ∉ L) : ringK w' b F most Q := ringIs.past h hg hL
theorem ringK.drewN {w : World} {b : Nat} {F : List Nat} {most : Nat} {Q : List (Int × Int)} (h : ringK w b F most Q) (n : Nat) : ringK (w.drewN n) b F most Q := h
theorem infoK : (Try.prog.info? 41).map (fun i => (i.zero, i.size, i.bytes)) = some (some (.agg #[.int .u16 0, .int .u16 0]), 2, 4) := by kernel_rfl
theorem bytesK : ∃ i, Try.prog.info? 79 = some i ∧ i.bytes = 0 := by
  have h : (Try.prog.info? 79).map (·.bytes) = some 0 := by kernel_rfl
  obtain ⟨i, hi, hb⟩ := Option.map_eq_some_iff.1 h
  exact ⟨i, hi, hb⟩
theorem mkK (w : World) (n : Int) (h : 0 ≤ n ∧ n ≤ 1048576) : (Instr.makeChan 76 (.int .i64 n)).run Try.prog w = .ok (.chan (some w.heap.size)) (w.alloc (.chan n.toNat #[] false 0 0 false)) := by
  obtain ⟨i, hi, hb⟩ := bytesK
  obtain ⟨m, rfl⟩ := Int.eq_ofNat_of_zero_le h.1
  simpa using run_makeChan (P := Try.prog) (w := w) Try.underlying76 hi .i64 m (by omega) (by rw [hb]; omega)

set_option maxRecDepth 100000 in
set_option maxHeartbeats 1000000 in
theorem rnewK (m : Int) (h : 1 ≤ m ∧ m ≤ 1048576) (w : World) :
    Calls Try.prog 16 #[.int .i64 m] w fun e w' => e = .returned (.tuple #[.pointer (some ⟨w.heap.size + 1, 0, none⟩), .int .i64 0]) ∧ ringK w' (w.heap.size + 1) [w.heap.size + 1, w.heap.size] m.toNat [] ∧ w.grownBy w' none := by
  obtain ⟨h1, h2⟩ := h
  have hmk := fun w => mkK w m (by omega)
  go_enter Try.func16, Try.ntmps16
  go_wp2
  go_ret2
  refine ⟨rfl, ⟨w.heap.size, .slice none 0 0, 0, [], ?_, ?_, World.ownsRow_nil _ _ _ _, rfl, by simp, rfl, by decide, by simp, by simp, by omega⟩, only_alloc (only_alloc (only_refl _ _) _) _⟩
  · have := obj.new (w.alloc (.chan m.toNat #[] false 0 0 false)) 81 [.chan (some w.heap.size), .slice none 0 0, .int .i64 0]
    simpa using this
  · exact ⟨#[], 0, 0, by rw [Below.heap_alloc _ _ _ (by simp)]; exact (MapKept.heap_alloc w _).1, rfl⟩
set_option maxHeartbeats 1000000 in
theorem rnewK_bad (m : Int) (h : m < 1 ∨ 1048576 < m) (w : World) :
    Calls Try.prog 16 #[.int .i64 m] w fun e w' => e = .returned (.tuple #[.pointer none, .int .i64 1]) ∧ w = w' := by
  rcases h with h | h
  · go_enter Try.func16, Try.ntmps16
    go_wp2
    go_ret2
    exact ⟨rfl, rfl⟩
  · go_enter Try.func16, Try.ntmps16
    go_wp2
    go_ret2
    exact ⟨rfl, rfl⟩

set_option maxHeartbeats 1000000 in
theorem rlenK (b : Nat) (F : List Nat) (most : Nat) (Q : List (Int × Int)) (w : World) (h : ringK w b F most Q) :
    Calls Try.prog 19 #[.pointer (some ⟨b, 0, none⟩)] w fun e w' => e = .returned (.int .i64 (Q.length : Int)) ∧ w = w' := by
  obtain ⟨c, sv, first, D, h1, ⟨buf, s, r, h2, hbuf⟩, h3⟩ := h
  clear h3
  have c0 := h1.cell 0 rfl
  have hlen := fun ty => run_len_chan (P := Try.prog) 76 ty Try.underlying76 h2
  simp only [hbuf, List.length_map] at hlen
  clear h1 h2 hbuf
  go_enter Try.func19, Try.ntmps19
  go_wp2
  go_ret
  exact ⟨rfl, rfl⟩
set_option maxHeartbeats 1000000 in
theorem rlenK_nil (w : World) :
    Calls Try.prog 19 #[.pointer none] w fun e w' => e = .returned (.int .i64 0) ∧ w = w' := by
  go_enter Try.func19, Try.ntmps19
  go_wp2
  go_ret
  exact ⟨rfl, rfl⟩

theorem pushK_end {w w1 w2 : World} {b : Nat} {F : List Nat} {most : Nat} {Q : List (Int × Int)} (x : (Int × Int)) {c first : Nat} {sv v' : Value} {D : List Value} (h1 : obj w b 81 [.chan (some c), sv, .int .i64 (first : Int)])
    (h2 : chanIs w c most Q.length) (h3 : w.ownsRow 0 41 2 sv (first + Q.length) (D ++ (Q.map cK).flatten)) (h4 : D.length = first * 2) (h8 : first ≤ Q.length) (h9 : Q.length < most) (h10 : most ≤ 1048576)
    (hw1 : chanIs w1 c most (Q.length + 1)) (ht1 : turned w w1 [c])
    (ho : w2.ownsRow 0 41 2 v' (first + Q.length + 1) ((D ++ (Q.map cK).flatten) ++ [(.int .u16 x.1), (.int .u16 x.2)])) (hg : (w1.alloc (.cells #[(.int .u16 x.1), (.int .u16 x.2)] 41)).grownBy w2 sv.ownBlock) (hl : v'.ownBlock = sv.ownBlock ∨ v'.ownBlock = some (w1.alloc (.cells #[(.int .u16 x.1), (.int .u16 x.2)] 41)).heap.size) :
    obj w2 b 81 [.chan (some c), sv, .int .i64 (first : Int)] ∧ (∃ F', ringK (w2.setCell ⟨b, 1, none⟩ v') b F' most (Q ++ [x]) ∧ newFoot w (b :: c :: sv.ownBlock.toList) F') ∧ turned w (w2.setCell ⟨b, 1, none⟩ v') (b :: c :: sv.ownBlock.toList) := by
  obtain ⟨e1, e2, e3⟩ := ringIs.sep h1 h2 h3 (by decide)
  have t2 : turned w w2 (c :: sv.ownBlock.toList) := turned_grown (turned_alloc (turned_more ht1 (by simp)) _) hg (fun k hk => Or.inl (by simp [hk]))
  have o2 : obj w2 b 81 [.chan (some c), sv, .int .i64 (first : Int)] := h1.past t2 (by simp; exact ⟨e1, e2⟩)
  have k2 : w2.heap[c]? = w1.heap[c]? := by
    rw [hg.block c (by have := hw1.lt; simp; omega) (fun e => e3 e.symm)]
    exact Below.heap_alloc _ _ _ hw1.lt
  have hvb : v'.ownBlock ≠ some b := by
    rcases hl with h | h
    · rw [h]; exact e2
    · rw [h]; have := h1.lt; have := ht1.2.2.2.1; simp; omega
  have t3 : turned w2 (w2.setCell ⟨b, 1, none⟩ v') [b] := turned_set (turned_refl _ _) (by simp) _
  refine ⟨o2, ⟨_, ⟨c, v', first, D, o2.set 1 v', ?_, ?_, h4, ?_, rfl, by decide, ?_, ?_, h10⟩, ?_⟩, ?_⟩
  · simp
    exact (hw1.kept k2).kept (t3.2.2.2.2 c (by rw [show w2.heap.size = w2.heap.size from rfl]; have := hw1.lt; have := hg.size; simp at this; omega) (by simp; exact fun e => e1 e.symm))
  · have := ownsRow_past ho t3 (fun g hgg => by simp; intro e; exact hvb (by rw [hgg, e]))
    simpa [cK, Nat.add_assoc] using this
  · intro q hq
    rw [List.map_append, List.mem_append, List.mem_map] at hq
    rcases hq with ⟨a, _, rfl⟩ | hq
    · rfl
    · simp at hq; subst hq; rfl
  · simp; omega
  · simp; omega
  · intro k hk
    simp at hk
    rcases hk with rfl | rfl | hk
    · exact Or.inl (by simp)
    · exact Or.inl (by simp)
    · rcases hl with h | h
      · rw [h] at hk; exact Or.inl (by simp [hk])
      · rw [h] at hk; have := ht1.2.2.2.1; simp at hk; exact Or.inr (by omega)
  · exact turned_set (turned_more t2 (fun k hk => List.mem_cons_of_mem _ hk)) (by simp) _

set_option maxRecDepth 100000 in
set_option maxHeartbeats 4000000 in
theorem pushK (b : Nat) (F : List Nat) (most : Nat) (Q : List (Int × Int)) (x : (Int × Int)) (hroom : Q.length < most) (w : World) (h : ringK w b F most Q) :
    Calls Try.prog 17 #[.pointer (some ⟨b, 0, none⟩), .agg #[.int .u16 x.1, .int .u16 x.2]] w fun e w' => e = .returned (.bool true) ∧ (∃ F', ringK w' b F' most (Q ++ [x]) ∧ newFoot w F F') ∧ turned w w' F := by
  obtain ⟨w0, hw0⟩ : ∃ w0, w0 = w.alloc (.cells #[.int .u16 x.1, .int .u16 x.2] 41) := ⟨_, rfl⟩
  have h := h.past (turned_alloc (turned_refl w []) (.cells #[.int .u16 x.1, .int .u16 x.2] 41)) (by simp)
  rw [← hw0] at h
  have T0 := Lib.hid (show turned w w0 [] by rw [hw0]; exact turned_alloc (turned_refl w []) _)
  have xb := obj.new w 41 [.int .u16 x.1, .int .u16 x.2]
  rw [← hw0] at xb
  have W0 := Lib.hid hw0
  clear hw0
  obtain ⟨c, sv, first, D, h1, hch, h3, h4, h5, rfl, h7, h8, h9, h10⟩ := h
  have hch0 := hch
  obtain ⟨buf, s, r, h2, hbuf⟩ := hch
  rw [List.length_map] at h3 h8 h9 hbuf hch0
  have c0 := h1.cell 0 rfl
  have c1 := h1.cell 1 rfl
  have f1 := h1.free 1
  obtain ⟨e1, e2, e3⟩ := ringIs.sep h1 hch0 h3 (by decide)
  have hcw1 : chanIs (w0.setChan c most (buf.push (.agg #[])) false (s + 1) r false) c most (Q.length + 1) := ⟨_, _, _, heap_setChan w0 c most (buf.push (.agg #[])) false (s + 1) r false (lt_of_block h2), by simp [hbuf]⟩
  have htw1 : turned w0 (w0.setChan c most (buf.push (.agg #[])) false (s + 1) r false) [c] := turned_chan (turned_refl _ _) (by simp) _ _ _ _ _ _
  have how1 := ownsRow_past h3 htw1 (fun g hg => by simp; intro e; exact e3 (by rw [hg, e]))
  have oo1 := h1.past htw1 (by simp; exact e1)
  have HP := Lib.hid (fun (w2 : World) (v' : Value) => @pushK_end w0 (w0.setChan c most (buf.push (.agg #[])) false (s + 1) r false) w2 b [] most Q x c first sv v' D h1 hch0 h3 h4 h8 hroom h10 hcw1 htw1)
  have HO1 := Lib.hid how1
  have HC := Lib.hid h2
  have HB := Lib.hid hbuf
  have HT := Lib.hid htw1
  have d0 := oo1.cell 1 rfl
  have d0a := (oo1.alloc (.cells #[.int .u16 x.1, .int .u16 x.2] 41)).cell 1 rfl
  obtain ⟨w1, hw1⟩ : ∃ w1, w1 = w0.setChan c most (buf.push (.agg #[])) false (s + 1) r false := ⟨_, rfl⟩
  rw [← hw1] at d0 d0a HO1 HP HT
  have hbc : w.heap.size ≠ c := fun e => by unfold obj at xb; rw [e, h2] at xb; cases xb
  have xb1 := xb.past HT.out (by simpa using hbc)
  have X0 := xb1.cell 0 rfl
  have X1 := xb1.cell 1 rfl
  have XB := Lib.hid xb1
  clear xb xb1
  have HW := Lib.hid hw1
  have hsz1 : w0.heap.size ≤ w1.heap.size := HT.out.2.2.2.1
  obtain ⟨i0, hi, hz0, hz1, hz2⟩ := info_parts infoK
  clear h1 hch0 h2 h3 h4 h5 hbuf oo1 how1 htw1 hcw1 hw1 e1 e2 e3
  refine calls_of_loneTo fun cs => ?_
  have e : Frame.enter Try.prog 17 #[.pointer (some ⟨b, 0, none⟩), .agg #[.int .u16 x.1, .int .u16 x.2]] .normal = (base 17).at ⟨#[.pointer (some ⟨b, 0, none⟩), .agg #[.int .u16 x.1, .int .u16 x.2], undef, undef, undef, undef, undef, undef, undef, undef, undef, undef, undef, undef, undef, undef, undef, undef, undef, undef, undef, undef, undef, undef, undef], []⟩ [.code (Try.f17.body.getD .skip)] := by
    simp [Frame.enter, Frame.at, Try.func17, base, Try.f17]
    try rfl
  rw [e]
  clear e
  refine LoneTo.goes (n := 40) ?_
  simp only [Try.f17, Option.getD_some]
  s_c stepG_seq
  s_reg
  s_op
  rw [← W0.out]
  s_op
  s_c stepG_region_end
  s_c stepG_seq
  s_c stepG_seq
  s_reg
  s_op
  s_op
  s_c stepG_region_end
  s_cond false
  s_c stepG_skip
  s_c stepG_seq
  s_c stepG_seq
  s_reg
  s_op
  s_op
  s_op
  s_op
  s_c stepG_region_end
  s_reg
  s_op
  s_c stepG_region_end
  s_c stepG_seq
  s_reg
  s_stop
  refine LoneTo.step (step_lone_sel_send_room (k := 0) (c := c) (v := .agg #[]) (z := .agg #[]) (cap := most) (buf := buf) (s := s) (r := r) (tm := false)
    (stepG_comm (cases := #[scase c (.agg #[]) (.agg #[])]) (blocking := false) (shape := .select) (w' := w0) rfl rfl (by decide) (by simp [go_sem, execOp, scase, Act.eval]))
    rfl (fun m c' hm hc' => ?_) HC.out (by rw [HB.out]; exact hroom)) ?_
  · rcases m with _ | m
    · exact absurd rfl hm
    · simp at hc'
  rw [Frame.finish_at, res_s0, ← HW.out]
  walk_nrm
  refine LoneTo.goes (n := 10) ?_
  s_op
  s_op
  s_c stepG_region_end
  s_stop
  refine loneTo_of_wp Try.func17 rfl rfl (by rintro _ ⟨h, _⟩; cases h) ?_
  go_wp2_with fail
  go_region_law (refine step_append_lies (P := Try.prog) _ rfl _ _ 35 rfl 0 41 i0 (.agg #[.int .u16 0, .int .u16 0]) 2 4 Try.underlying35 hi hz0 hz1 hz2 rfl (by decide) _ _ _ rfl (HO1.out.drew.alloc _) ⟨w1.heap.size, 0, none⟩ 1 1 [.int .u16 x.1, .int .u16 x.2] rfl rfl (fun j u hj => by rw [addr_add0]; exact (obj.new w1.drew 41 [.int .u16 x.1, .int .u16 x.2]).cell j hj) (by simp [Value.oneCell']) (by decide) (by unfold maxLen; omega) (by omega) (Nat.zero_le _) _ rfl ?_; intro g2 cap2 w2 ho hg hl hlt2; obtain ⟨q1, q2, q3⟩ := HP.out w2 (.slice (some ⟨g2, 0, none⟩) (first + Q.length + 1) cap2) (by simpa using ho) ⟨hg.os, hg.tape, hg.output, hg.size, hg.block⟩ (hl.imp (fun e => Eq.symm e) (fun e => congrArg some e)); have g1 := q1.cell 1 rfl; have gf := q1.free 1; have Q2 := Lib.hid q2; have Q3 := Lib.hid q3; clear ho hg hl q1 q2 q3)
  all_goals go_wp2
  all_goals go_ret
  all_goals obtain ⟨F2, r1, r2⟩ := Q2.out
  all_goals exact ⟨rfl, ⟨F2, r1, fun k hk => (r2 k hk).imp id (fun h => Nat.le_trans T0.out.2.2.2.1 h)⟩, turned_trans (turned_more T0.out (by simp)) Q3.out⟩

set_option maxRecDepth 100000 in
set_option maxHeartbeats 4000000 in
theorem pushK_full (b : Nat) (F : List Nat) (most : Nat) (Q : List (Int × Int)) (x : (Int × Int)) (hfull : ¬ Q.length < most) (w : World) (h : ringK w b F most Q) :
    Calls Try.prog 17 #[.pointer (some ⟨b, 0, none⟩), .agg #[.int .u16 x.1, .int .u16 x.2]] w fun e w' => e = .returned (.bool false) ∧ w.grownBy w' none := by
  obtain ⟨w0, hw0⟩ : ∃ w0, w0 = w.alloc (.cells #[.int .u16 x.1, .int .u16 x.2] 41) := ⟨_, rfl⟩
  have h := h.past (turned_alloc (turned_refl w []) (.cells #[.int .u16 x.1, .int .u16 x.2] 41)) (by simp)
  rw [← hw0] at h
  have T0 := Lib.hid (show turned w w0 [] by rw [hw0]; exact turned_alloc (turned_refl w []) _)
  have xb := obj.new w 41 [.int .u16 x.1, .int .u16 x.2]
  rw [← hw0] at xb
  have W0 := Lib.hid hw0
  clear hw0
  obtain ⟨c, sv, first, D, h1, ⟨buf, s, r, h2, hbuf⟩, h3, h4, h5, rfl, h7, h8, h9, h10⟩ := h
  rw [List.length_map] at hbuf
  have c0 := h1.cell 0 rfl
  have HC := Lib.hid h2
  have HB := Lib.hid hbuf
  clear h1 h2 h3 h4 h5 h7 h8 h9 h10 hbuf
  refine calls_of_loneTo fun cs => ?_
  have e : Frame.enter Try.prog 17 #[.pointer (some ⟨b, 0, none⟩), .agg #[.int .u16 x.1, .int .u16 x.2]] .normal = (base 17).at ⟨#[.pointer (some ⟨b, 0, none⟩), .agg #[.int .u16 x.1, .int .u16 x.2], undef, undef, undef, undef, undef, undef, undef, undef, undef, undef, undef, undef, undef, undef, undef, undef, undef, undef, undef, undef, undef, undef, undef], []⟩ [.code (Try.f17.body.getD .skip)] := by
    simp [Frame.enter, Frame.at, Try.func17, base, Try.f17]
    try rfl
  rw [e]
  clear e
  refine LoneTo.goes (n := 40) ?_
  simp only [Try.f17, Option.getD_some]
  s_c stepG_seq
  s_reg
  s_op
  rw [← W0.out]
  s_op
  s_c stepG_region_end
  s_c stepG_seq
  s_c stepG_seq
  s_reg
  s_op
  s_op
  s_c stepG_region_end
  s_cond false
  s_c stepG_skip
  s_c stepG_seq
  s_c stepG_seq
  s_reg
  s_op
  s_op
  s_op
  s_op
  s_c stepG_region_end
  s_reg
  s_op
  s_c stepG_region_end
  s_c stepG_seq
  s_reg
  s_stop
  refine LoneTo.step (step_lone_sel_default
    (stepG_comm (cases := #[scase c (.agg #[]) (.agg #[])]) (blocking := false) (shape := .select) (w' := w0) rfl rfl (by decide) (by simp [go_sem, execOp, scase, Act.eval]))
    (fun cc hcc => ?_)) ?_
  · simp only [List.mem_toArray, List.mem_cons, List.not_mem_nil, or_false] at hcc
    rcases hcc with rfl
    exact noWay_send HC.out (by rw [HB.out]; omega)
  rw [Frame.finish_at, res_sd]
  walk_nrm
  refine LoneTo.goes (n := 10) ?_
  s_op
  s_op
  s_c stepG_region_end
  s_stop
  refine loneTo_of_wp Try.func17 rfl rfl (by rintro _ ⟨h, _⟩; cases h) ?_
  go_wp2
  go_ret
  exact ⟨rfl, by rw [W0.out]; exact only_alloc (only_refl _ _) _⟩


set_option maxRecDepth 100000 in
set_option maxHeartbeats 4000000 in
theorem atK_no (b : Nat) (F : List Nat) (most : Nat) (Q : List (Int × Int)) (i : Int) (hi : i < 0 ∨ (Q.length : Int) ≤ i) (w : World) (h : ringK w b F most Q) :
    Calls Try.prog 18 #[.pointer (some ⟨b, 0, none⟩), .int .i64 i] w fun e w' => e = .returned (.tuple #[.agg #[.int .u16 0, .int .u16 0], .bool false]) ∧ w.grownBy w' none := by
  have h0 := h.past (turned_alloc (turned_refl w []) (.cells #[.int .u16 0, .int .u16 0] 41)) (by simp)
  have H := Lib.hid h0
  clear h h0
  by_cases hn : i < 0
  · clear hi
    go_enter Try.func18, Try.ntmps18
    go_wp2_with fail
    refine bodyPost_ret (v := .tuple #[.agg #[.int .u16 0, .int .u16 0], .bool false]) (by simp [results, Try.results18, go_sem]) rfl ⟨rfl, ?_⟩
    repeat (first | exact only_refl _ _ | apply only_drew | (refine only_alloc ?_ _) | (refine only_setNew ?_ (by simp) _))
  · have h1 : (Q.length : Int) ≤ i := by omega
    clear hi
    go_enter Try.func18, Try.ntmps18
    go_wp2_with fail
    refine (rlenK b F most Q _ H.out).mono ?_
    rintro e w' ⟨rfl, rfl⟩
    go_wp2_with fail
    refine bodyPost_ret (v := .tuple #[.agg #[.int .u16 0, .int .u16 0], .bool false]) (by simp [results, Try.results18, go_sem]) rfl ⟨rfl, ?_⟩
    repeat (first | exact only_refl _ _ | apply only_drew | (refine only_alloc ?_ _) | (refine only_setNew ?_ (by simp) _))
set_option maxRecDepth 100000 in
set_option maxHeartbeats 4000000 in
theorem atK (b : Nat) (F : List Nat) (most : Nat) (Q : List (Int × Int)) (i : Nat) (x : (Int × Int)) (hi : Q[i]? = some x) (w : World) (h : ringK w b F most Q) :
    Calls Try.prog 18 #[.pointer (some ⟨b, 0, none⟩), .int .i64 (i : Int)] w fun e w' => e = .returned (.tuple #[.agg #[.int .u16 x.1, .int .u16 x.2], .bool true]) ∧ w.grownBy w' none := by
  obtain ⟨w0, hw0⟩ : ∃ w0, w0 = w.alloc (.cells #[.int .u16 0, .int .u16 0] 41) := ⟨_, rfl⟩
  have hsz : w.heap.size < w0.heap.size := by rw [hw0]; simp
  have xb := obj.new w 41 [.int .u16 0, .int .u16 0]
  have h := h.past (turned_alloc (turned_refl w []) (.cells #[.int .u16 0, .int .u16 0] 41)) (by simp)
  rw [← hw0] at h xb
  have T0 := Lib.hid (show w.grownBy w0 none by rw [hw0]; exact only_alloc (only_refl _ _) _)
  have W0 := Lib.hid hw0
  clear hw0
  have H := Lib.hid h
  obtain ⟨c, sv, first, D, h1, h2, h3, h4, h5, rfl, h7, h8, h9, h10⟩ := h
  rw [List.length_map] at h3 h8 h9
  have hlt : i < Q.length := (List.getElem?_eq_some_iff.1 hi).1
  rcases h3.2 with ⟨rfl, hz⟩ | ⟨g, cap, cur, rfl, hb0, hg, hncap, hcapm, hcur, htake⟩
  · omega
  have c1 := h1.cell 1 rfl
  have c2 := h1.cell 2 rfl
  have ec0 : w0.cell? ⟨g, (first + i) * 2, none⟩ = some (.int .u16 x.1) := by
    rw [h3.cellAt ((first + i) * 2) (by omega), List.getElem?_append_right (by omega), h4, show (first + i) * 2 - first * 2 = i * 2 by omega, flatK_at0, hi]
    rfl
  have ec1 : w0.cell? ⟨g, (first + i) * 2 + 1, none⟩ = some (.int .u16 x.2) := by
    rw [h3.cellAt ((first + i) * 2 + 1) (by omega), List.getElem?_append_right (by omega), h4, show (first + i) * 2 + 1 - first * 2 = i * 2 + 1 by omega, flatK_at1, hi]
    rfl
  have x0 := xb.cell 0 rfl
  have x1 := xb.cell 1 rfl
  have y0 := xb.free 0
  have y1 := xb.free 1
  have XB := Lib.hid xb
  have hi0 : (0 : Int) ≤ (i : Int) := by omega
  have hi1 : (i : Int) < (Q.length : Int) := by omega
  have hi2 : (first : Int) + (i : Int) < (first : Int) + (Q.length : Int) := by omega
  have hi3 : (0 : Int) ≤ (first : Int) + (i : Int) := by omega
  have hi4 : first + i ≤ 9223372036854775807 := by omega
  clear h1 h2 h3 h4 h5 hg hcur htake hi xb
  go_enter Try.func18, Try.ntmps18
  go_wp2_with fail
  rw [← W0.out]
  refine (rlenK b _ most Q _ H.out).mono ?_
  rintro e w' ⟨rfl, rfl⟩
  go_wp2_with fail
  go_region
  go_wp2_with fail
  refine bodyPost_ret (v := .tuple #[.agg #[.int .u16 x.1, .int .u16 x.2], .bool true]) (by simp [results, Try.results18, go_sem, *]) rfl ⟨rfl, ?_⟩
  repeat (first | exact T0.out | apply only_drew | apply only_drewN | (refine only_setNew ?_ (Nat.le_refl _) _))

end Go.Proofs.Ytplbgfjemcpcpaa
