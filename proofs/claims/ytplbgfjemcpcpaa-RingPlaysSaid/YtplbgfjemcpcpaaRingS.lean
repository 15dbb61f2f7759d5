/- The methods of a ring of things of type string. Conditions: the ring lies in memory with these things. -/
import Derived.Test.YtplbgfjemcpcpaaRing
import Derived.WalkLawsBesides
import Derived.Laws.EntriesVeiled
import Derived.Deep.AppendLies
import Derived.Deep.RegionLaw
import Derived.Outline
namespace Go.Proofs.Ytplbgfjemcpcpaa
open Go.RowKit Go.Conc
set_option linter.unusedVariables false
set_option linter.unusedSimpArgs false

def cS (x : ByteArray) : List Value := [(.string x)]
theorem flatS (Q : List ByteArray) : ((Q.map cS).flatten).length = Q.length * 1 := by
  induction Q with
  | nil => rfl
  | cons x Q ih => rw [List.map_cons, List.flatten_cons, List.length_append, ih]; simp [cS, Nat.add_mul]; omega
theorem oneS (Q : List ByteArray) : ∀ u, u ∈ (Q.map cS).flatten → u.oneCell' = true := by
  intro u hu
  simp only [List.mem_flatten, List.mem_map] at hu
  obtain ⟨l, ⟨a, _, rfl⟩, hu⟩ := hu
  simp [cS] at hu
  first | (subst hu; rfl) | (rcases hu with rfl | rfl <;> rfl)
def vS (x : ByteArray) : Value := .string x
theorem flatS_at (Q : List ByteArray) (i : Nat) : ((Q.map cS).flatten)[i]? = (Q[i]?).map vS := by
  induction Q generalizing i with
  | nil => rfl
  | cons x Q ih =>
    cases i with
    | zero => rfl
    | succ i => simpa [cS] using ih i
def ringS (w : World) (b : Nat) (F : List Nat) (most : Nat) (Q : List ByteArray) : Prop := ringIs w 86 9 1 b F most (Q.map cS)
theorem ringS.past {w w' : World} {b : Nat} {F L : List Nat} {most : Nat} {Q : List ByteArray} (h : ringS w b F most Q) (hg : turned w w' L) (hL : ∀ k, k ∈ F → k ∉ L) : ringS w' b F most Q := ringIs.past h hg hL
theorem ringS.drewN {w : World} {b : Nat} {F : List Nat} {most : Nat} {Q : List ByteArray} (h : ringS w b F most Q) (n : Nat) : ringS (w.drewN n) b F most Q := h
theorem infoS : (Try.prog.info? 9).map (fun i => (i.zero, i.size, i.bytes)) = some (some (.string .empty), 1, 16) := by kernel_rfl
theorem bytesS : ∃ i, Try.prog.info? 79 = some i ∧ i.bytes = 0 := by
  have h : (Try.prog.info? 79).map (·.bytes) = some 0 := by kernel_rfl
  obtain ⟨i, hi, hb⟩ := Option.map_eq_some_iff.1 h
  exact ⟨i, hi, hb⟩
theorem mkS (w : World) (n : Int) (h : 0 ≤ n ∧ n ≤ 1048576) : (Instr.makeChan 76 (.int .i64 n)).run Try.prog w = .ok (.chan (some w.heap.size)) (w.alloc (.chan n.toNat #[] false 0 0 false)) := by
  obtain ⟨i, hi, hb⟩ := bytesS
  obtain ⟨m, rfl⟩ := Int.eq_ofNat_of_zero_le h.1
  simpa using run_makeChan (P := Try.prog) (w := w) Try.underlying76 hi .i64 m (by omega) (by rw [hb]; omega)

set_option maxRecDepth 100000 in
set_option maxHeartbeats 1000000 in
theorem rnewS (m : Int) (h : 1 ≤ m ∧ m ≤ 1048576) (w : World) :
    Calls Try.prog 23 #[.int .i64 m] w fun e w' => e = .returned (.tuple #[.pointer (some ⟨w.heap.size + 1, 0, none⟩), .int .i64 0]) ∧ ringS w' (w.heap.size + 1) [w.heap.size + 1, w.heap.size] m.toNat [] ∧ w.grownBy w' none := by
  obtain ⟨h1, h2⟩ := h
  have hmk := fun w => mkS w m (by omega)
  go_enter Try.func23, Try.ntmps23
  go_wp2
  go_ret2
  refine ⟨rfl, ⟨w.heap.size, .slice none 0 0, 0, [], ?_, ?_, World.ownsRow_nil _ _ _ _, rfl, by simp, rfl, by decide, by simp, by simp, by omega⟩, only_alloc (only_alloc (only_refl _ _) _) _⟩
  · have := obj.new (w.alloc (.chan m.toNat #[] false 0 0 false)) 86 [.chan (some w.heap.size), .slice none 0 0, .int .i64 0]
    simpa using this
  · exact ⟨#[], 0, 0, by rw [Below.heap_alloc _ _ _ (by simp)]; exact (MapKept.heap_alloc w _).1, rfl⟩
set_option maxHeartbeats 1000000 in
theorem rnewS_bad (m : Int) (h : m < 1 ∨ 1048576 < m) (w : World) :
    Calls Try.prog 23 #[.int .i64 m] w fun e w' => e = .returned (.tuple #[.pointer none, .int .i64 1]) ∧ w = w' := by
  rcases h with h | h
  · go_enter Try.func23, Try.ntmps23
    go_wp2
    go_ret2
    exact ⟨rfl, rfl⟩
  · go_enter Try.func23, Try.ntmps23
    go_wp2
    go_ret2
    exact ⟨rfl, rfl⟩

set_option maxHeartbeats 1000000 in
theorem rlenS (b : Nat) (F : List Nat) (most : Nat) (Q : List ByteArray) (w : World) (h : ringS w b F most Q) :
    Calls Try.prog 32 #[.pointer (some ⟨b, 0, none⟩)] w fun e w' => e = .returned (.int .i64 (Q.length : Int)) ∧ w = w' := by
  obtain ⟨c, sv, first, D, h1, ⟨buf, s, r, h2, hbuf⟩, h3⟩ := h
  clear h3
  have c0 := h1.cell 0 rfl
  have hlen := fun ty => run_len_chan (P := Try.prog) 76 ty Try.underlying76 h2
  simp only [hbuf, List.length_map] at hlen
  clear h1 h2 hbuf
  go_enter Try.func32, Try.ntmps32
  go_wp2
  go_ret
  exact ⟨rfl, rfl⟩
set_option maxHeartbeats 1000000 in
theorem rlenS_nil (w : World) :
    Calls Try.prog 32 #[.pointer none] w fun e w' => e = .returned (.int .i64 0) ∧ w = w' := by
  go_enter Try.func32, Try.ntmps32
  go_wp2
  go_ret
  exact ⟨rfl, rfl⟩
set_option maxHeartbeats 1000000 in
theorem rroomS (b : Nat) (F : List Nat) (most : Nat) (Q : List ByteArray) (w : World) (h : ringS w b F most Q) :
    Calls Try.prog 33 #[.pointer (some ⟨b, 0, none⟩)] w (Reads w (.int .i64 ((most : Int) - (Q.length : Int)))) := by
  obtain ⟨c, sv, first, D, h1, ⟨buf, s, r, h2, hbuf⟩, h3, h4, h5, h6, h7, h8, h9, h10⟩ := h
  rw [List.length_map] at h9
  have c0 := h1.cell 0 rfl
  have hlen := fun ty => run_len_chan (P := Try.prog) (w := w.drew) 76 ty Try.underlying76 h2
  have hcap := fun ty => run_cap_chan (P := Try.prog) (w := w.drew) 76 ty Try.underlying76 h2
  simp only [hbuf, List.length_map] at hlen
  clear h1 h2 h3 h4 h5 h6 h7 h8 hbuf
  go_enter Try.func33, Try.ntmps33
  go_wp2
  go_region
  go_wp2
  go_ret
  exact ⟨rfl, 1, rfl⟩
set_option maxHeartbeats 1000000 in
theorem rroomS_nil (w : World) :
    Calls Try.prog 33 #[.pointer none] w (Reads w (.int .i64 0)) := by
  go_enter Try.func33, Try.ntmps33
  go_wp2
  go_ret
  exact ⟨rfl, 0, rfl⟩

theorem pushS_end {w w1 w2 : World} {b : Nat} {F : List Nat} {most : Nat} {Q : List ByteArray} (x : ByteArray) {c first : Nat} {sv v' : Value} {D : List Value} (h1 : obj w b 86 [.chan (some c), sv, .int .i64 (first : Int)])
    (h2 : chanIs w c most Q.length) (h3 : w.ownsRow 0 9 1 sv (first + Q.length) (D ++ (Q.map cS).flatten)) (h4 : D.length = first * 1) (h8 : first ≤ Q.length) (h9 : Q.length < most) (h10 : most ≤ 1048576)
    (hw1 : chanIs w1 c most (Q.length + 1)) (ht1 : turned w w1 [c])
    (ho : w2.ownsRow 0 9 1 v' (first + Q.length + 1) ((D ++ (Q.map cS).flatten) ++ [(.string x)])) (hg : (w1.alloc (.cells #[(.string x)] 9)).grownBy w2 sv.ownBlock) (hl : v'.ownBlock = sv.ownBlock ∨ v'.ownBlock = some (w1.alloc (.cells #[(.string x)] 9)).heap.size) :
    obj w2 b 86 [.chan (some c), sv, .int .i64 (first : Int)] ∧ (∃ F', ringS (w2.setCell ⟨b, 1, none⟩ v') b F' most (Q ++ [x]) ∧ newFoot w (b :: c :: sv.ownBlock.toList) F') ∧ turned w (w2.setCell ⟨b, 1, none⟩ v') (b :: c :: sv.ownBlock.toList) := by
  obtain ⟨e1, e2, e3⟩ := ringIs.sep h1 h2 h3 (by decide)
  have t2 : turned w w2 (c :: sv.ownBlock.toList) := turned_grown (turned_alloc (turned_more ht1 (by simp)) _) hg (fun k hk => Or.inl (by simp [hk]))
  have o2 : obj w2 b 86 [.chan (some c), sv, .int .i64 (first : Int)] := h1.past t2 (by simp; exact ⟨e1, e2⟩)
  have k2 : w2.heap[c]? = w1.heap[c]? := by
    rw [hg.block c (by have := hw1.lt; simp; omega) (fun e => e3 e.symm)]
    exact Below.heap_alloc _ _ _ hw1.lt
  have hvb : v'.ownBlock ≠ some b := by
    rcases hl with h | h
    · rw [h]; exact e2
    · rw [h]; have := h1.lt; have := ht1.2.2.2.1; simp; omega
  have t3 : turned w2 (w2.setCell ⟨b, 1, none⟩ v') [b] := turned_set (turned_refl _ _) (by simp) _
  refine ⟨o2, ⟨_, ⟨c, v', first, D, o2.set 1 v', ?_, ?_, h4, ?_, rfl, by decide, ?_, ?_, h10⟩, ?_⟩, ?_⟩
  · simp
    exact (hw1.kept k2).kept (t3.2.2.2.2 c (by rw [show w2.heap.size = w2.heap.size from rfl]; have := hw1.lt; have := hg.size; simp at this; omega) (by simp; exact fun e => e1 e.symm))
  · have := ownsRow_past ho t3 (fun g hgg => by simp; intro e; exact hvb (by rw [hgg, e]))
    simpa [cS, Nat.add_assoc] using this
  · intro q hq
    simp [cS] at hq
    rcases hq with hq | rfl
    · obtain ⟨a, _, rfl⟩ := hq; rfl
    · rfl
  · simp; omega
  · simp; omega
  · intro k hk
    simp at hk
    rcases hk with rfl | rfl | hk
    · exact Or.inl (by simp)
    · exact Or.inl (by simp)
    · rcases hl with h | h
      · rw [h] at hk; exact Or.inl (by simp [hk])
      · rw [h] at hk; have := ht1.2.2.2.1; simp at hk; exact Or.inr (by omega)
  · exact turned_set (turned_more t2 (fun k hk => List.mem_cons_of_mem _ hk)) (by simp) _

set_option maxRecDepth 100000 in
set_option maxHeartbeats 4000000 in
theorem pushS (b : Nat) (F : List Nat) (most : Nat) (Q : List ByteArray) (x : ByteArray) (hroom : Q.length < most) (w : World) (h : ringS w b F most Q) :
    Calls Try.prog 25 #[.pointer (some ⟨b, 0, none⟩), .string x] w fun e w' => e = .returned (.bool true) ∧ (∃ F', ringS w' b F' most (Q ++ [x]) ∧ newFoot w F F') ∧ turned w w' F := by
  obtain ⟨c, sv, first, D, h1, hch, h3, h4, h5, rfl, h7, h8, h9, h10⟩ := h
  have hch0 := hch
  obtain ⟨buf, s, r, h2, hbuf⟩ := hch
  rw [List.length_map] at h3 h8 h9 hbuf hch0
  have c0 := h1.cell 0 rfl
  have c1 := h1.cell 1 rfl
  have f1 := h1.free 1
  obtain ⟨e1, e2, e3⟩ := ringIs.sep h1 hch0 h3 (by decide)
  have hcw1 : chanIs (w.setChan c most (buf.push (.agg #[])) false (s + 1) r false) c most (Q.length + 1) := ⟨_, _, _, heap_setChan w c most (buf.push (.agg #[])) false (s + 1) r false (lt_of_block h2), by simp [hbuf]⟩
  have htw1 : turned w (w.setChan c most (buf.push (.agg #[])) false (s + 1) r false) [c] := turned_chan (turned_refl _ _) (by simp) _ _ _ _ _ _
  have how1 := ownsRow_past h3 htw1 (fun g hg => by simp; intro e; exact e3 (by rw [hg, e]))
  have oo1 := h1.past htw1 (by simp; exact e1)
  have HP := Lib.hid (fun (w2 : World) (v' : Value) => @pushS_end w (w.setChan c most (buf.push (.agg #[])) false (s + 1) r false) w2 b [] most Q x c first sv v' D h1 hch0 h3 h4 h8 hroom h10 hcw1 htw1)
  have HO1 := Lib.hid how1
  have HC := Lib.hid h2
  have HB := Lib.hid hbuf
  have HT := Lib.hid htw1
  have d0 := oo1.cell 1 rfl
  obtain ⟨w1, hw1⟩ : ∃ w1, w1 = w.setChan c most (buf.push (.agg #[])) false (s + 1) r false := ⟨_, rfl⟩
  rw [← hw1] at d0 HO1 HP HT
  have HW := Lib.hid hw1
  have hsz1 : w.heap.size ≤ w1.heap.size := HT.out.2.2.2.1
  obtain ⟨i0, hi, hz0, hz1, hz2⟩ := info_parts infoS
  clear h1 hch0 h2 h3 h4 h5 hbuf oo1 how1 htw1 hcw1 hw1 e1 e2 e3
  refine calls_of_loneTo fun cs => ?_
  have e : Frame.enter Try.prog 25 #[.pointer (some ⟨b, 0, none⟩), .string x] .normal = (base 25).at ⟨#[.pointer (some ⟨b, 0, none⟩), .string x, undef, undef, undef, undef, undef, undef, undef, undef, undef, undef, undef, undef, undef, undef, undef, undef, undef, undef, undef, undef, undef, undef, undef], []⟩ [.code (Try.f25.body.getD .skip)] := by
    simp [Frame.enter, Frame.at, Try.func25, base, Try.f25]
    try rfl
  rw [e]
  clear e
  refine LoneTo.goes (n := 40) ?_
  simp only [Try.f25, Option.getD_some]
  s_c stepG_seq
  s_reg
  s_op
  s_c stepG_region_end
  s_c stepG_seq
  s_c stepG_seq
  s_reg
  s_op
  s_op
  s_c stepG_region_end
  s_cond false
  s_c stepG_skip
  s_c stepG_seq
  s_c stepG_seq
  s_reg
  s_op
  s_op
  s_op
  s_op
  s_c stepG_region_end
  s_reg
  s_op
  s_c stepG_region_end
  s_c stepG_seq
  s_reg
  s_stop
  refine LoneTo.step (step_lone_sel_send_room (k := 0) (c := c) (v := .agg #[]) (z := .agg #[]) (cap := most) (buf := buf) (s := s) (r := r) (tm := false)
    (stepG_comm (cases := #[scase c (.agg #[]) (.agg #[])]) (blocking := false) (shape := .select) (w' := w) rfl rfl (by decide) (by simp [go_sem, execOp, scase, Act.eval]))
    rfl (fun m c' hm hc' => ?_) HC.out (by rw [HB.out]; exact hroom)) ?_
  · rcases m with _ | m
    · exact absurd rfl hm
    · simp at hc'
  rw [Frame.finish_at, res_s0, ← HW.out]
  walk_nrm
  refine LoneTo.goes (n := 10) ?_
  s_op
  s_op
  s_c stepG_region_end
  s_stop
  refine loneTo_of_wp Try.func25 rfl rfl (by rintro _ ⟨h, _⟩; cases h) ?_
  go_wp2_with (first | (at_builtin; refine wpList_append_own_at _ rfl _ _ 64 rfl 0 9 i0 (.string .empty) 1 16 Try.underlying64 hi hz0 hz1 hz2 rfl (by decide) _ _ _ rfl (HO1.out.alloc _) ⟨w1.heap.size, 0, none⟩ 1 1 [(.string x)] rfl rfl ?c1 ?c2 (by unfold maxLen; omega) (by omega) (by omega) ?_))
  case c1 => intro j u hj; rw [addr_add0]; exact (obj.new w1 9 [(.string x)]).cell j hj
  case c2 => simp [Value.oneCell']
  intro v' w2 ho hg hnil hloc
  obtain ⟨q1, q2, q3⟩ := HP.out w2 v' (by simpa using ho) hg (by simpa using hloc)
  have g1 := q1.cell 1 rfl
  have gf := q1.free 1
  obtain ⟨sa, sn, sc, rfl⟩ := ownsRow_slice ho
  have Q2 := Lib.hid q2
  have Q3 := Lib.hid q3
  clear ho hg hnil hloc q1 q2 q3
  go_wp2
  go_ret
  exact ⟨rfl, Q2.out, Q3.out⟩

set_option maxRecDepth 100000 in
set_option maxHeartbeats 4000000 in
theorem pushS_full (b : Nat) (F : List Nat) (most : Nat) (Q : List ByteArray) (x : ByteArray) (hfull : ¬ Q.length < most) (w : World) (h : ringS w b F most Q) :
    Calls Try.prog 25 #[.pointer (some ⟨b, 0, none⟩), .string x] w fun e w' => e = .returned (.bool false) ∧ w = w' := by
  obtain ⟨c, sv, first, D, h1, ⟨buf, s, r, h2, hbuf⟩, h3, h4, h5, rfl, h7, h8, h9, h10⟩ := h
  rw [List.length_map] at hbuf
  have c0 := h1.cell 0 rfl
  have HC := Lib.hid h2
  have HB := Lib.hid hbuf
  clear h1 h2 h3 h4 h5 h7 h8 h9 h10 hbuf
  refine calls_of_loneTo fun cs => ?_
  have e : Frame.enter Try.prog 25 #[.pointer (some ⟨b, 0, none⟩), .string x] .normal = (base 25).at ⟨#[.pointer (some ⟨b, 0, none⟩), .string x, undef, undef, undef, undef, undef, undef, undef, undef, undef, undef, undef, undef, undef, undef, undef, undef, undef, undef, undef, undef, undef, undef, undef], []⟩ [.code (Try.f25.body.getD .skip)] := by
    simp [Frame.enter, Frame.at, Try.func25, base, Try.f25]
    try rfl
  rw [e]
  clear e
  refine LoneTo.goes (n := 40) ?_
  simp only [Try.f25, Option.getD_some]
  s_c stepG_seq
  s_reg
  s_op
  s_c stepG_region_end
  s_c stepG_seq
  s_c stepG_seq
  s_reg
  s_op
  s_op
  s_c stepG_region_end
  s_cond false
  s_c stepG_skip
  s_c stepG_seq
  s_c stepG_seq
  s_reg
  s_op
  s_op
  s_op
  s_op
  s_c stepG_region_end
  s_reg
  s_op
  s_c stepG_region_end
  s_c stepG_seq
  s_reg
  s_stop
  refine LoneTo.step (step_lone_sel_default
    (stepG_comm (cases := #[scase c (.agg #[]) (.agg #[])]) (blocking := false) (shape := .select) (w' := w) rfl rfl (by decide) (by simp [go_sem, execOp, scase, Act.eval]))
    (fun cc hcc => ?_)) ?_
  · simp only [List.mem_toArray, List.mem_cons, List.not_mem_nil, or_false] at hcc
    rcases hcc with rfl
    exact noWay_send HC.out (by rw [HB.out]; omega)
  rw [Frame.finish_at, res_sd]
  walk_nrm
  refine LoneTo.goes (n := 10) ?_
  s_op
  s_op
  s_c stepG_region_end
  s_stop
  refine loneTo_of_wp Try.func25 rfl rfl (by rintro _ ⟨h, _⟩; cases h) ?_
  go_wp2
  go_ret
  exact ⟨rfl, rfl⟩
set_option maxHeartbeats 1000000 in
theorem pushS_nil (x : ByteArray) (w : World) :
    Calls Try.prog 25 #[.pointer none, .string x] w fun e w' => e = .returned (.bool false) ∧ w = w' := by
  go_enter Try.func25, Try.ntmps25
  go_wp2
  go_ret
  exact ⟨rfl, rfl⟩


theorem popS_mid {w wd : World} {b c g cap first most : Nat} {Q : List ByteArray} {x : ByteArray} {D : List Value} (hd : turned w wd [c]) (hdw : w.heap.size ≤ wd.heap.size)
    (o : obj wd b 86 [.chan (some c), .slice (some ⟨g, 0, none⟩) (first + (Q.length + 1)) cap, .int .i64 (first : Int)]) (hch : chanIs wd c most Q.length)
    (ho : wd.ownsRow 0 9 1 (.slice (some ⟨g, 0, none⟩) (first + (Q.length + 1)) cap) (first + (Q.length + 1)) (D ++ (List.map cS (x :: Q)).flatten)) (hD : D.length = first * 1) (hbg : b ≠ g) (hcb : b ≠ c) (hcg : g ≠ c) :
    obj ((wd.setCell ⟨g, first, none⟩ (.string ⟨#[]⟩)).setCell ⟨b, 2, none⟩ (.int .i64 ((first : Int) + 1))) b 86 [.chan (some c), .slice (some ⟨g, 0, none⟩) (first + (Q.length + 1)) cap, .int .i64 ((first : Int) + 1)] ∧
    ((wd.setCell ⟨g, first, none⟩ (.string ⟨#[]⟩)).setCell ⟨b, 2, none⟩ (.int .i64 ((first : Int) + 1))).ownsRow 0 9 1 (.slice (some ⟨g, 0, none⟩) (first + (Q.length + 1)) cap) (first + (Q.length + 1)) ((D ++ [.string ⟨#[]⟩]) ++ (List.map cS Q).flatten) ∧
    chanIs ((wd.setCell ⟨g, first, none⟩ (.string ⟨#[]⟩)).setCell ⟨b, 2, none⟩ (.int .i64 ((first : Int) + 1))) c most Q.length ∧ turned w ((wd.setCell ⟨g, first, none⟩ (.string ⟨#[]⟩)).setCell ⟨b, 2, none⟩ (.int .i64 ((first : Int) + 1))) [b, c, g] := by
  have t1 : turned wd (wd.setCell ⟨g, first, none⟩ (.string ⟨#[]⟩)) [g] := turned_set (turned_refl _ _) (by simp) _
  have t2 : turned (wd.setCell ⟨g, first, none⟩ (.string ⟨#[]⟩)) ((wd.setCell ⟨g, first, none⟩ (.string ⟨#[]⟩)).setCell ⟨b, 2, none⟩ (.int .i64 ((first : Int) + 1))) [b] := turned_set (turned_refl _ _) (by simp) _
  have s1 := ho.stored first (.string ⟨#[]⟩)
  have hh := hch.lt
  refine ⟨?_, ?_, ?_, ?_⟩
  · exact (o.setOther hbg _).set 2 _
  · refine ownsRow_past ?_ t2 (fun k hk => by simp [Value.ownBlock] at hk ⊢; omega)
    have : (D ++ (List.map cS (x :: Q)).flatten).set first (.string ⟨#[]⟩) = (D ++ [.string ⟨#[]⟩]) ++ (List.map cS Q).flatten := by
      rw [List.set_append_right _ _ (by omega), show first - D.length = 0 by omega]
      simp [cS]
    rw [← this]
    exact s1.1
  · refine (hch.kept (t1.2.2.2.2 c hh ?_)).kept (t2.2.2.2.2 c ?_ ?_)
    · simp; omega
    · have := t1.2.2.2.1; omega
    · simp; omega
  · exact turned_set (turned_set (turned_more hd (by simp)) (by simp) _) (by simp) _

theorem popS_news {w : World} {g cap first : Nat} {Q : List ByteArray} {D : List Value} {z : Value} (ho : w.ownsRow 0 9 1 (.slice (some ⟨g, 0, none⟩) (first + (Q.length + 1)) cap) (first + (Q.length + 1)) ((D ++ [z]) ++ (List.map cS Q).flatten)) (hD : D.length = first * 1)
    (j : Nat) (u : Value) (hj : ((List.map cS Q).flatten)[j]? = some u) : w.cell? ((⟨g, first + 1, none⟩ : Addr).add j) = some u := by
  have hlt := (List.getElem?_eq_some_iff.1 hj).1
  have hl : ((List.map cS Q).flatten).length = Q.length := by rw [flatS]; omega
  have e : (⟨g, first + 1, none⟩ : Addr).add j = ⟨g, first + 1 + j, none⟩ := by
    unfold Addr.add
    by_cases h : j = 0 <;> simp [h]
  rw [e, ho.cellAt (first + 1 + j) (by omega), List.getElem?_append_right (by simp; omega)]
  simp only [List.length_append, List.length_cons, List.length_nil]
  rw [show first + 1 + j - (D.length + (0 + 1)) = j by omega]
  exact hj

theorem popS_fin {w we w4 : World} {b c g g2 cap cap2 first most n m : Nat} {Q : List ByteArray} (oe : obj we b 86 [.chan (some c), .slice (some ⟨g, 0, none⟩) n cap, .int .i64 ((first : Int) + 1)]) (ce : chanIs we c most Q.length) (te : turned w we [b, c, g])
    (ho : w4.ownsRow 0 9 1 (.slice (some ⟨g2, 0, none⟩) m cap2) m ((Q.map cS).flatten)) (hg : we.grownBy w4 none) (hl : we.heap.size ≤ g2) (hws : w.heap.size ≤ we.heap.size) (hm : m = Q.length) (h9 : Q.length ≤ most) (h10 : most ≤ 1048576) (hcb : b ≠ c) :
    ∃ F', ringS ((w4.setCell ⟨b, 1, none⟩ (.slice (some ⟨g2, 0, none⟩) m cap2)).setCell ⟨b, 2, none⟩ (.int .i64 0)) b F' most Q ∧ newFoot w [b, c, g] F' ∧
      turned w ((w4.setCell ⟨b, 1, none⟩ (.slice (some ⟨g2, 0, none⟩) m cap2)).setCell ⟨b, 2, none⟩ (.int .i64 0)) [b, c, g] := by
  subst hm
  have o4 := oe.kept hg (by simp)
  have hbl := oe.lt
  have hcl := ce.lt
  have t4 : turned w4 ((w4.setCell ⟨b, 1, none⟩ (.slice (some ⟨g2, 0, none⟩) Q.length cap2)).setCell ⟨b, 2, none⟩ (.int .i64 0)) [b] := turned_set (turned_set (turned_refl _ _) (by simp) _) (by simp) _
  have hk : w4.heap[c]? = we.heap[c]? := hg.block c hcl (by simp)
  refine ⟨_, ⟨c, _, 0, [], (o4.set 1 _).set 2 _, ?_, ?_, rfl, ?_, rfl, by decide, by simp, by simpa using h9, h10⟩, ?_, ?_⟩
  · rw [List.length_map]
    exact (ce.kept hk).kept (t4.2.2.2.2 c (by have := hg.size; omega) (by simp; omega))
  · have := ownsRow_past ho t4 (fun k hk => by simp [Value.ownBlock] at hk ⊢; omega)
    simpa using this
  · intro q hq; simp at hq; obtain ⟨a, _, rfl⟩ := hq; rfl
  · intro k hk
    simp [Value.ownBlock] at hk
    rcases hk with rfl | rfl | rfl
    · exact Or.inl (by simp)
    · exact Or.inl (by simp)
    · exact Or.inr (by omega)
  · exact turned_trans (turned_trans te (turned_none hg)) (turned_more t4 (by simp))

theorem popS_fin0 {w we : World} {b c g cap first most n : Nat} (oe : obj we b 86 [.chan (some c), .slice (some ⟨g, 0, none⟩) n cap, .int .i64 ((first : Int) + 1)]) (ce : chanIs we c most 0) (te : turned w we [b, c, g]) (h10 : most ≤ 1048576) (hcb : b ≠ c) :
    ∃ F', ringS (((we.setCell ⟨b, 1, none⟩ (.slice none 0 0)).setCell ⟨b, 2, none⟩ (.int .i64 0)).drew) b F' most [] ∧ newFoot w [b, c, g] F' ∧
      turned w (((we.setCell ⟨b, 1, none⟩ (.slice none 0 0)).setCell ⟨b, 2, none⟩ (.int .i64 0)).drew) [b, c, g] := by
  have hcl := ce.lt
  have t4 : turned we (((we.setCell ⟨b, 1, none⟩ (.slice none 0 0)).setCell ⟨b, 2, none⟩ (.int .i64 0)).drew) [b] := turned_drew' (turned_set (turned_set (turned_refl _ _) (by simp) _) (by simp) _)
  refine ⟨_, ⟨c, _, 0, [], ((oe.set 1 _).set 2 _).drew, ?_, World.ownsRow_nil _ _ _ _, rfl, by simp, rfl, by decide, by simp, by simp, h10⟩, ?_, ?_⟩
  · exact ce.kept (t4.2.2.2.2 c hcl (by simp; omega))
  · intro k hk
    simp [Value.ownBlock] at hk
    rcases hk with rfl | rfl
    · exact Or.inl (by simp)
    · exact Or.inl (by simp)
  · exact turned_trans te (turned_more t4 (by simp))

/-- What Pop leaves: the first thing is gone. -/
def PoppedS (w : World) (b : Nat) (F : List Nat) (most : Nat) (Q : List ByteArray) (x : ByteArray) (e : Ending) (w' : World) : Prop :=
  e = .returned (.tuple #[vS x, .bool true]) ∧ (∃ F', ringS w' b F' most Q ∧ newFoot w F F') ∧ turned w w' F

set_option maxRecDepth 100000 in
set_option maxHeartbeats 4000000 in
theorem popS_empty (b : Nat) (F : List Nat) (most : Nat) (w : World) (h : ringS w b F most []) :
    Calls Try.prog 27 #[.pointer (some ⟨b, 0, none⟩)] w fun e w' => e = .returned (.tuple #[.string ⟨#[]⟩, .bool false]) ∧ w = w' := by
  have H := Lib.hid h
  clear h
  go_enter Try.func27, Try.ntmps27
  go_wp2_with fail
  refine (rlenS b F most [] _ H.out).mono ?_
  rintro e w' ⟨rfl, rfl⟩
  go_wp2_with fail
  go_ret2
  exact ⟨rfl, rfl⟩
set_option maxHeartbeats 4000000 in
theorem popS_nil (w : World) :
    Calls Try.prog 27 #[.pointer none] w fun e w' => e = .returned (.tuple #[.string ⟨#[]⟩, .bool false]) ∧ w = w' := by
  go_enter Try.func27, Try.ntmps27
  go_wp2_with fail
  refine (rlenS_nil _).mono ?_
  rintro e w' ⟨rfl, rfl⟩
  go_wp2_with fail
  go_ret2
  exact ⟨rfl, rfl⟩

set_option maxRecDepth 100000 in
set_option maxHeartbeats 8000000 in
theorem popS (b : Nat) (F : List Nat) (most : Nat) (Q : List ByteArray) (x : ByteArray) (w : World) (h : ringS w b F most (x :: Q)) :
    Calls Try.prog 27 #[.pointer (some ⟨b, 0, none⟩)] w (PoppedS w b F most Q x) := by
  have HR := Lib.hid h
  obtain ⟨c, sv, first, D, h1, hch, h3, h4, h5, rfl, h7, h8, h9, h10⟩ := h
  have hch0 := hch
  obtain ⟨buf, s, r, h2, hbuf⟩ := hch
  rw [List.length_map, List.length_cons] at h3 h8 h9 hbuf hch0
  have c0 := h1.cell 0 rfl
  obtain ⟨e1, e2, e3⟩ := ringIs.sep h1 hch0 h3 (by decide)
  have hcw1 : chanIs (w.setChan c most (buf.extract 1 buf.size) false s (r + 1) false) c most Q.length := ⟨_, _, _, heap_setChan w c most (buf.extract 1 buf.size) false s (r + 1) false (lt_of_block h2), by simp [hbuf]⟩
  have htw1 : turned w (w.setChan c most (buf.extract 1 buf.size) false s (r + 1) false) [c] := turned_chan (turned_refl _ _) (by simp) _ _ _ _ _ _
  have how1 := ownsRow_past h3 htw1 (fun g hg => by simp; intro e; exact e3 (by rw [hg, e]))
  have oo1 := h1.past htw1 (by simp; exact e1)
  rcases how1.2 with ⟨rfl, hz⟩ | ⟨g, cap, cur, rfl, hb0, hg, hncap, hcapm, hcur, htake⟩
  · omega
  have HC := Lib.hid h2
  have HB := Lib.hid hbuf
  have HO1 := Lib.hid how1
  have HOBJ := Lib.hid oo1
  have HCH := Lib.hid hcw1
  have HT := Lib.hid htw1
  have HSEP := Lib.hid (⟨e1, e2, e3⟩ : b ≠ c ∧ _ ∧ _)
  have H4 := Lib.hid h4
  clear hch0 h1 h2 h3 h4 h5 hbuf how1 oo1 htw1 hcw1 e1 e2 e3 hcur htake hg hb0
  obtain ⟨w1, hw1⟩ : ∃ w1, w1 = w.setChan c most (buf.extract 1 buf.size) false s (r + 1) false := ⟨_, rfl⟩
  rw [← hw1] at HO1 HOBJ HCH HT
  have HW := Lib.hid hw1
  clear hw1
  refine calls_of_loneTo fun cs => ?_
  have e : Frame.enter Try.prog 27 #[.pointer (some ⟨b, 0, none⟩)] .normal = (base 27).at ⟨#[.pointer (some ⟨b, 0, none⟩), undef, undef, undef, undef, undef, undef, undef, undef, undef, undef, undef, undef, undef, undef, undef, undef, undef, undef, undef, undef, undef, undef, undef, undef, undef, undef, undef, undef, undef, undef, undef, undef, undef, undef, undef, undef, undef, undef, undef, undef, undef, undef, undef, undef, undef, undef, undef, undef, undef, undef, undef, undef, undef, undef, undef, undef, undef, undef, undef, undef, undef, undef, undef, undef, undef, undef, undef, undef], []⟩ [.code (Try.f27.body.getD .skip)] := by
    simp [Frame.enter, Frame.at, Try.func27, base, Try.f27]
    try rfl
  rw [e]
  clear e
  refine LoneTo.goes (n := 8) ?_
  simp only [Try.f27, Option.getD_some]
  s_c stepG_seq
  s_reg
  s_op
  s_op
  s_c stepG_region_end
  s_stop
  refine loneTo_seq Try.func27 rfl rfl (by rintro _ ⟨h, _⟩; cases h) ?_
  go_wp2_with fail
  refine (rlenS b _ most (x :: Q) _ HR.out).mono ?_
  rintro e w' ⟨rfl, rfl⟩
  have z0 : (((x :: Q).length : Int) == 0) = false := by simp; omega
  go_wp2_with fail
  refine LoneTo.goes (n := 8) ?_
  s_c stepG_seq
  s_reg
  s_op
  s_op
  s_op
  s_op
  s_stop
  refine LoneTo.step (step_lone_recv_buf false (c := c) (z := .agg #[]) (cap := most) (buf := buf) (closed := false) (s := s) (r := r) (tm := false)
    (stepG_comm (cases := #[rcase c (.agg #[])]) (blocking := true) (shape := .recv false) (w' := w) rfl rfl (by decide) (by simp [go_sem, rcase])) HC.out (by rw [HB.out]; omega)) ?_
  rw [Frame.finish_at, ← HW.out]
  simp only [got]
  walk_nrm
  refine LoneTo.goes (n := 3) ?_
  s_c stepG_region_end
  s_stop
  refine loneTo_of_wp Try.func27 rfl rfl (by rintro _ ⟨h, _⟩; cases h) ?_
  clear z0 c0
  obtain ⟨wd, hwd⟩ : ∃ wd, wd = w1.drew := ⟨_, rfl⟩
  have od := HOBJ.out.drew
  have wo := HO1.out.drew
  rw [← hwd] at od wo
  have HOD := Lib.hid od
  have HWO := Lib.hid wo
  have HWD := Lib.hid hwd
  have d1 := od.cell 1 rfl
  have d2 := od.cell 2 rfl
  have f2 := od.free 2
  have f1 := od.free 1
  have ec : wd.cell? ⟨g, first, none⟩ = some (vS x) := by
    rw [wo.cellAt first (by omega), List.getElem?_append_right (by rw [H4.out]; omega), H4.out]
    simp [cS, vS]
  unfold vS at ec
  have ef := wo.frozenAt first
  have hbg : b ≠ g := fun e => HSEP.out.2.1 (by rw [e]; rfl)
  have hgb : g ≠ b := fun e => hbg e.symm
  have hfi : (first : Int) < (first : Int) + ((Q.length : Int) + 1) := by omega
  clear od wo hwd
  by_cases hcmp : first + (Q.length + 1) < 2 * (first + 1)
  all_goals go_wp2_with fail
  all_goals refine region_tail 20 (by kernel_rfl) (by kernel_rfl) wd HWD.out ?_
  all_goals simp only [List.take_succ_cons, List.take_zero, List.drop_succ_cons, List.drop_zero]
  all_goals iterate 20 still_step
  all_goals refine wpStill_nil ?_
  all_goals go_wp2_with fail
  all_goals obtain ⟨m1, m2, m3, m4⟩ := popS_mid (w := w) (most := most) (x := x) (D := D) (turned_more (show turned w wd [c] by rw [HWD.out]; exact HT.out) (fun _ h => h)) (by have := HT.out.2.2.2.1; rw [HWD.out]; exact this) HOD.out (by rw [HWD.out]; exact HCH.out) HWO.out H4.out hbg HSEP.out.1 (fun e => HSEP.out.2.2 (by rw [e]; rfl))
  all_goals generalize (World.setCell (World.setCell wd ⟨g, first, none⟩ (.string ⟨#[]⟩)) ⟨b, 2, none⟩ (.int .i64 ((first : Int) + 1))) = w3 at m1 m2 m3 m4 ⊢
  all_goals have M1 := Lib.hid m1
  all_goals have M2 := Lib.hid m2
  all_goals have M3 := Lib.hid m3
  all_goals have M4 := Lib.hid m4
  all_goals have p1 := m1.cell 1 rfl
  all_goals have p2 := m1.cell 2 rfl
  all_goals have q1 := m1.free 1
  all_goals have q2 := m1.free 2
  all_goals clear m1 m2 m3 m4 ec ef d1 d2 f1 f2
  · have hdc : decide ((first : Int) + ((Q.length : Int) + 1) < 2 * ((first : Int) + 1)) = true := by simp; omega
    go_quiet (fail)
    go_wp2_with fail
    obtain ⟨we, hwe⟩ : ∃ we, we = w3.drewN nq := ⟨_, rfl⟩
    have oe := M1.out.drewN nq
    have ne : we.ownsRow 0 9 1 (.slice (some ⟨g, 0, none⟩) (first + (Q.length + 1)) cap) (first + (Q.length + 1)) ((D ++ [.string ⟨#[]⟩]) ++ (List.map cS Q).flatten) := by rw [hwe]; exact M2.out
    have he3 : chanIs we c most Q.length := by rw [hwe]; exact M3.out
    have te : turned w we [b, c, g] := by rw [hwe]; exact M4.out
    rw [← hwe] at oe ⊢
    have OE := Lib.hid oe
    have NE := Lib.hid ne
    have CE := Lib.hid he3
    have TE := Lib.hid te
    have x1 := oe.cell 1 rfl
    have x2 := oe.cell 2 rfl
    have y1 := oe.free 1
    have y2 := oe.free 2
    clear hwe oe ne he3 te p1 p2 q1 q2
    have hi1 : (first : Int) + 1 ≤ (first : Int) + ((Q.length : Int) + 1) := by omega
    have hi2 : (first : Int) + 1 ≤ (cap : Int) := by omega
    have hi3 : (0 : Int) ≤ (first : Int) + 1 := by omega
    obtain ⟨i0, hi, hz0, hz1, hz2⟩ := info_parts infoS
    by_cases hq : Q.length = 0
    · obtain rfl : Q = [] := by simpa using hq
      by_cases hce : cap = first + 1
      all_goals go_region
      all_goals go_wp2
      all_goals go_ret2
      all_goals obtain ⟨F', r1, r2, r3⟩ := popS_fin0 (w := w) (first := first) (most := most) OE.out CE.out TE.out h10 HSEP.out.1
      all_goals exact ⟨rfl, ⟨F', r1, r2⟩, r3⟩
    · have hcq : ¬ cap = first + 1 := by omega
      have HNW : Hid (∀ (j : Nat) u, ((List.map cS Q).flatten)[j]? = some u → we.drew.cell? ((⟨g, first + 1, none⟩ : Addr).add j) = some u) := Lib.hid (fun j u hj => popS_news NE.out H4.out j u hj)
      go_region_law (refine step_append_lies (P := Try.prog) _ rfl _ _ 64 rfl 0 9 i0 (.string .empty) 1 16 Try.underlying64 hi hz0 hz1 hz2 rfl (by decide) _ _ _ rfl (World.ownsRow_nil _ 0 9 1) ⟨g, first + 1, none⟩ (first + (Q.length + 1) - (first + 1)) (cap - (first + 1)) ((List.map cS Q).flatten) rfl (by rw [flatS]; omega) HNW.out (oneS Q) (by omega) (by unfold maxLen; omega) (by omega) (Nat.zero_le _) we.heap.size rfl ?_; intro g2 cap2 w4 ho4 hg4 hl4 hlt4; have hg4 : we.drew.grownBy w4 none := hg4; have hl4 : g2 = we.drew.heap.size := hl4.resolve_left (show ¬ (none = some g2) by simp); have o4 := OE.out.drew.kept hg4 (by simp); have o41 := o4.cell 1 rfl; have o42 := o4.free 1; have o43 := o4.free 2; have o44 := o4.cell 2 rfl; have HO4 := Lib.hid ho4; have HG4 := Lib.hid hg4; have HL4 := Lib.hid hl4; have HO4B := Lib.hid o4; clear ho4 hg4 hl4 o4)
      all_goals go_wp2
      all_goals go_ret2
      all_goals obtain ⟨F', r1, r2, r3⟩ := popS_fin (w := w) (first := first) (most := most) (Q := Q) OE.out CE.out TE.out (by have := HO4.out; rw [Nat.zero_add, List.nil_append] at this; exact this) (grown_undrew HG4.out) (by rw [HL4.out]; exact Nat.le_refl _) TE.out.2.2.2.1 (by omega) (by omega) h10 HSEP.out.1
      all_goals exact ⟨rfl, ⟨F', r1, r2⟩, r3⟩
  · have hdc : decide ((first : Int) + ((Q.length : Int) + 1) < 2 * ((first : Int) + 1)) = false := by simp; omega
    go_quiet (fail)
    go_wp2_with fail
    go_ret2
    refine ⟨rfl, ⟨_, ⟨c, _, first + 1, D ++ [.string ⟨#[]⟩], obj_val M1.out (by simp), ?_, ?_, ?_, ?_, rfl, by decide, ?_, ?_, h10⟩, fun k hk => Or.inl hk⟩, ?_⟩
    · rw [List.length_map]; exact M3.out
    · have := M2.out; rw [show first + (Q.length + 1) = first + 1 + (Q.map cS).length by simp; omega] at this ⊢; exact this
    · simp; have := H4.out; omega
    · intro q hq; simp at hq; obtain ⟨a, _, rfl⟩ := hq; rfl
    · simp; omega
    · simp; omega
    · exact turned_more M4.out (fun k hk => by simp [Value.ownBlock] at hk ⊢; exact hk)


set_option maxRecDepth 100000 in
set_option maxHeartbeats 4000000 in
theorem atS_no (b : Nat) (F : List Nat) (most : Nat) (Q : List ByteArray) (i : Int) (hi : i < 0 ∨ (Q.length : Int) ≤ i) (w : World) (h : ringS w b F most Q) :
    Calls Try.prog 29 #[.pointer (some ⟨b, 0, none⟩), .int .i64 i] w fun e w' => e = .returned (.tuple #[.string ⟨#[]⟩, .bool false]) ∧ w = w' := by
  have H := Lib.hid h
  clear h
  by_cases h0 : i < 0
  · clear hi
    go_enter Try.func29, Try.ntmps29
    go_wp2_with fail
    go_ret2
    exact ⟨rfl, rfl⟩
  · have h1 : (Q.length : Int) ≤ i := by omega
    clear hi
    go_enter Try.func29, Try.ntmps29
    go_wp2_with fail
    refine (rlenS b F most Q _ H.out).mono ?_
    rintro e w' ⟨rfl, rfl⟩
    go_wp2_with fail
    go_ret2
    exact ⟨rfl, rfl⟩
set_option maxHeartbeats 4000000 in
theorem atS_nil (i : Int) (w : World) :
    Calls Try.prog 29 #[.pointer none, .int .i64 i] w fun e w' => e = .returned (.tuple #[.string ⟨#[]⟩, .bool false]) ∧ w = w' := by
  by_cases h0 : i < 0
  · 
    go_enter Try.func29, Try.ntmps29
    go_wp2_with fail
    go_ret2
    exact ⟨rfl, rfl⟩
  · have h1 : (0 : Int) ≤ i := by omega
    go_enter Try.func29, Try.ntmps29
    go_wp2_with fail
    refine (rlenS_nil _).mono ?_
    rintro e w' ⟨rfl, rfl⟩
    go_wp2_with fail
    go_ret2
    exact ⟨rfl, rfl⟩
set_option maxRecDepth 100000 in
set_option maxHeartbeats 4000000 in
theorem atS (b : Nat) (F : List Nat) (most : Nat) (Q : List ByteArray) (i : Nat) (x : ByteArray) (hi : Q[i]? = some x) (w : World) (h : ringS w b F most Q) :
    Calls Try.prog 29 #[.pointer (some ⟨b, 0, none⟩), .int .i64 (i : Int)] w (Reads w (.tuple #[vS x, .bool true])) := by
  have H := Lib.hid h
  obtain ⟨c, sv, first, D, h1, h2, h3, h4, h5, rfl, h7, h8, h9, h10⟩ := h
  rw [List.length_map] at h3 h8 h9
  have hlt : i < Q.length := (List.getElem?_eq_some_iff.1 hi).1
  rcases h3.2 with ⟨rfl, hz⟩ | ⟨g, cap, cur, rfl, hb0, hg, hncap, hcapm, hcur, htake⟩
  · omega
  have c1 := h1.cell 1 rfl
  have c2 := h1.cell 2 rfl
  have ec : w.cell? ⟨g, first + i, none⟩ = some (vS x) := by
    rw [h3.cellAt (first + i) (by omega), List.getElem?_append_right (by omega), h4, show first + i - first * 1 = i by omega, flatS_at, hi]
    rfl
  unfold vS at ec
  unfold vS
  have hi0 : (0 : Int) ≤ (i : Int) := by omega
  have hi1 : (i : Int) < (Q.length : Int) := by omega
  have hi2 : (first : Int) + (i : Int) < (first : Int) + (Q.length : Int) := by omega
  have hi3 : (0 : Int) ≤ (first : Int) + (i : Int) := by omega
  have hi4 : first + i ≤ 9223372036854775807 := by omega
  clear h1 h2 h3 h4 h5 hg hcur htake hi
  go_enter Try.func29, Try.ntmps29
  go_wp2_with fail
  refine (rlenS b _ most Q _ H.out).mono ?_
  rintro e w' ⟨rfl, rfl⟩
  go_wp2_with fail
  go_region
  go_wp2_with fail
  go_ret2
  exact ⟨rfl, 1, rfl⟩


/-- What Clear leaves. -/
def ClearedS (w : World) (b : Nat) (F : List Nat) (most : Nat) (e : Ending) (w' : World) : Prop :=
  e = .returned (.tuple #[]) ∧ (∃ F', ringS w' b F' most [] ∧ newFoot w F F') ∧ ∃ L, turned w w' L ∧ newFoot w F L
def ClearRelS (w : World) (b : Nat) (F : List Nat) (most : Nat) (wr : World) : Prop :=
  ∃ F' Q, ringS wr b F' most Q ∧ newFoot w F F' ∧ ∃ L, turned w wr L ∧ newFoot w F L

end Go.Proofs.Ytplbgfjemcpcpaa
