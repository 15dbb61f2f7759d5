/- The methods of a table of times by keys of type api.Skip. Conditions: the table lies in memory with these times. -/
import Derived.Test.YtebdnciehobfaaaTimAhd
import Derived.WalkLawsBesides
import Derived.Deep.RegionLaw
import Derived.Outline
import Derived.BigQuiet
import Derived.Test.YtebdnciehobfaaaTimKey
namespace Go.Proofs.Ytebdnciehobfaaa
open Go.RowKit Go.Maps
set_option linter.unusedVariables false
set_option linter.unusedSimpArgs false

theorem zeroK (w : World) : (zeroValue 76).run Try.prog w = .ok (tv (0, 0)) w := by kernel_rfl
abbrev tabK (w : World) (b : Nat) (F : List Nat) (n : Nat) (L : List ((Int × Int) × Int)) : Prop := tab Try.prog 92 58 mkK lkK w b F n L
def okK (x : (Int × Int)) : Prop := keyOf Try.prog 58 (mkK x) = some (lkK x)

set_option maxHeartbeats 1000000 in
theorem tnewK (w : World) :
    Calls Try.prog 27 #[] w fun e w' => e = .returned (.pointer (some ⟨w.heap.size + 1, 0, none⟩)) ∧ tabK w' (w.heap.size + 1) [w.heap.size + 1, w.heap.size] 0 [] ∧ w.grownBy w' none := by
  have hmm := @run_makeMap Try.prog
  go_enter Try.func27, Try.ntmps27
  go_wp2
  go_ret
  refine ⟨rfl, ⟨w.heap.size, _, 0, [], ?_, (World.ownsMap_made w Try.prog 58 RT).alloc _, Agree.empty _, by simp, by simp, by simp, by simp, by simp, rfl, rfl⟩, only_alloc (only_alloc (only_refl _ _) _) _⟩
  have := obj.new (w.alloc (.map #[] 0)) 92 [.map (some w.heap.size), .int .u64 0]
  simpa using this

set_option maxHeartbeats 1000000 in
theorem tlenK (b : Nat) (F : List Nat) (n : Nat) (L : List ((Int × Int) × Int)) (w : World) (h : tabK w b F n L) :
    Calls Try.prog 35 #[.pointer (some ⟨b, 0, none⟩)] w fun e w' => e = .returned (.int .i64 (L.length : Int)) ∧ w = w' := by
  obtain ⟨m, D, turn, es, h1, h2, h3, h4, h5, h6, h7, h8, rfl, rfl⟩ := h
  have c0 := h1.cell 0 rfl
  have hsz := h3.size
  clear h1 h3 h4 h5 h6 h7 h8
  go_enter Try.func35, Try.ntmps35
  go_wp2_with (first | (at_len; refine wpList_len_own _ rfl _ 90 rfl 58 76 Try.underlying90 _ m n D rfl h2 ?_) | go_in)
  go_ret
  exact ⟨by rw [List.length_map]; rfl, rfl⟩
set_option maxHeartbeats 1000000 in
theorem tlenK_nil (w : World) :
    Calls Try.prog 35 #[.pointer none] w fun e w' => e = .returned (.int .i64 0) ∧ w = w' := by
  go_enter Try.func35, Try.ntmps35
  go_wp2
  go_ret
  exact ⟨rfl, rfl⟩

theorem turned_setN {a w : World} {b i : Nat} {L : List Nat} (h : turned a w L) (hb : a.heap.size ≤ b) (v : Value) : turned a (w.setCell ⟨b, i, none⟩ v) L := by
  refine ⟨h.1, h.2.1, h.2.2.1, by simpa [World.setCell] using h.2.2.2.1, fun k hk hn => ?_⟩
  rw [Below.heap_setCell _ _ _ _ (by show k ≠ b; omega)]
  exact h.2.2.2.2 k hk hn
theorem step_lookup {P : Program} (w : World) {ops : Array Oper} {o : Oper} {a : Act} {K' : Act → World → Prop} {Q : Exit → Act → World → Prop} {E : Prop} (hg : o.guard = none) (m x : Operand) (t : TypeId) (hop : o.op = Op.lookup t m x true)
    (k e : TypeId) (K : Keyed P k) (ht : P.underlying t = some (.map k e)) {z : Value} (hz : (zeroValue e).run P w = .ok z w) (zd : DataW Unit) (zp : List MemPlace) (hzd : RT z = some (zd, zp)) (b n : Nat) (D : DataW Unit)
    (hm : a.eval m = .map (some b)) (hown : w.ownsMap P k RT b n D) (key : Value) (kl : Lit) (hx : a.eval x = key) (hkey : keyOf P k key = some kl)
    (hK : ∀ v ps, RT v = some (D.atKey kl zd, ps) → K' (a.put o.dst (.tuple #[v, .bool (Maps.has D kl)])) w) :
    if Region.wanted o (yielded ops a.tmps) = true then Oper.wp P o a w K' Q else E := by
  have hw : Region.wanted o (yielded ops a.tmps) = true := by simp [Region.wanted, hg]
  rw [if_pos hw]
  obtain ⟨v, ps, hrun, hv⟩ := hown.look_ok K ht hz hzd hkey
  unfold Oper.wp
  simp [execOp, hop, hm, hx, hrun, Result.andThen]
  exact hK v ps hv
theorem newK_of {w w' : World} {t : TypeId} {cs : List Value} (h : w.alloc (.cells cs.toArray t) = w') : obj w' w.heap.size t cs := h ▸ obj.new w t cs
theorem ownsMap_alloc {P : Program} {kt : TypeId} {w : World} {m n : Nat} {D : DataW Unit} (h : w.ownsMap P kt RT m n D) (o : Obj) : (w.alloc o).ownsMap P kt RT m n D := h.alloc o
set_option maxRecDepth 100000 in
set_option maxHeartbeats 2000000 in
theorem tstopK (b : Nat) (F : List Nat) (n : Nat) (L : List ((Int × Int) × Int)) (k : (Int × Int)) (w : World) (h : tabK w b F n L) (hk : okK k) :
    Calls Try.prog 31 #[.pointer (some ⟨b, 0, none⟩), mkK k] w fun e w' => e = .returned (.bool (decide (∃ x, x ∈ L ∧ x.1 = k))) ∧ tabK w' b F n (drp k L) ∧ turned w w' F := by
  obtain ⟨m, D, turn, es, h1, h2, h3, h4, h5, h6, h7, h8, rfl, rfl⟩ := h
  have hinj : ∀ e, e ∈ es → lkK e.1 = lkK k → e.1 = k := fun e he hh => key_inj keyedK mkinjK (h8 e he) hk hh
  have hne := obj_map_ne h1 h2
  have H1 := Lib.hid h1
  have H2 := Lib.hid h2
  have R := Lib.hid (And.intro h3 (And.intro h4 (And.intro h5 (And.intro h6 (And.intro h7 (And.intro h8 hinj))))))
  clear h1 h2 h3 h4 h5 h6 h7 h8 hinj
  unfold mkK
  go_enter Try.func31, Try.ntmps31
  go_wp2_with fail
  generalize hwb : w.alloc _ = wb
  have ok := newK_of hwb
  have t1 : turned w wb [] := by rw [← hwb]; exact turned_alloc (turned_refl w []) _
  clear hwb
  have O1 := Lib.hid (H1.out.past t1 (by simp))
  have M1 := Lib.hid (ownsMap_past H2.out (turned_drew' t1) (by simp))
  have MZ := Lib.hid (show (wb.alloc (Obj.cells #[.int .i64 0, .int .u64 0] 76)).drew.ownsMap Try.prog 58 RT m n D from (ownsMap_alloc (ownsMap_past H2.out t1 (by simp)) (Obj.cells #[.int .i64 0, .int .u64 0] 76)).drew)
  have T1 := Lib.hid t1
  have OK := Lib.hid ok
  have c0 := O1.out.cell 0 rfl
  have k0 := OK.out.cell 0 rfl
  have k1 := OK.out.cell 1 rfl
  have hbl := O1.out.lt
  have hkl := OK.out.lt
  clear t1 ok
  obtain ⟨v, ps, hrun, hv⟩ := M1.out.look_ok keyedK Try.underlying90 (zeroK _) (RT_mk (0, 0)) hk
  obtain ⟨v', ps', hrun', hv'⟩ := MZ.out.look_ok keyedK Try.underlying90 (zeroK _) (RT_mk (0, 0)) hk
  obtain ⟨v1, rfl, hv2⟩ := RT_inv hv
  obtain ⟨v3, rfl, hv4⟩ := RT_inv hv'
  have hvv : v1 = v3 := td_inj ((congrArg Prod.fst hv2).symm.trans (congrArg Prod.fst hv4))
  subst hvv
  unfold tv mkK at hrun hrun'
  clear hv hv' hv2 hv4
  go_region_held3 (fun w' => w'.cell? ⟨b, 0, none⟩ = some (.map (some m)) ∧ w'.cell? ⟨w.heap.size, 0, none⟩ = some (.int .u16 k.1) ∧ w'.cell? ⟨w.heap.size, 1, none⟩ = some (.int .u16 k.2)) (first | (simp [go_sem, *]; done) | assumption) (fail)
  all_goals clear hrun hrun' c0 k0 k1
  all_goals have t2 : turned wb (wb.alloc (Obj.cells #[.int .i64 v1.1, .int .u64 v1.2] 76)).drew [] := turned_drew' (turned_alloc (turned_refl wb []) _)
  all_goals generalize (wb.alloc (Obj.cells #[.int .i64 v1.1, .int .u64 v1.2] 76)).drew = we at *
  all_goals obtain ⟨wf, hwf⟩ : ∃ wf, wf = we.drew := ⟨_, rfl⟩
  all_goals have HWF := Lib.hid hwf
  all_goals have T2 := Lib.hid (show turned w wf [] by rw [hwf]; exact turned_drew' (turned_trans T1.out t2))
  all_goals have K2 := Lib.hid (show obj wf w.heap.size 58 [.int .u16 k.1, .int .u16 k.2] by rw [hwf]; exact (OK.out.past t2 (by simp)).drew)
  all_goals clear t2 hwf
  all_goals have O2 := Lib.hid (H1.out.past T2.out (by simp))
  all_goals have M2 := Lib.hid (ownsMap_past H2.out T2.out (by simp))
  all_goals have c0 := O2.out.cell 0 rfl
  all_goals have k0 := K2.out.cell 0 rfl
  all_goals have k1 := K2.out.cell 1 rfl
  all_goals go_wp2_with fail
  all_goals refine region_tail 5 (by kernel_rfl) (by kernel_rfl) wf HWF.out ?_
  all_goals simp only [List.take_succ_cons, List.take_zero, List.drop_succ_cons, List.drop_zero]
  all_goals iterate 5 still_step
  all_goals refine wpStill_nil ?_
  all_goals go_wp2_with (first
    | (at_delete; refine wpList_delete_own _ rfl _ _ 90 58 rfl 76 keyedK Try.underlying90 RT m n D rfl M2.out _ (lkK k) rfl hk ?_; intro w2 hown2 hturn2)
    | go_in)
  all_goals obtain ⟨h3, h4, h5, h6, h7, h8, hinj⟩ := R.out
  all_goals go_ret
  all_goals have t1 := turned_trans (turned_more T2.out (L := []) (M := [b, m]) (by simp)) (turned_map hturn2 (L := [b, m]) (by simp))
  all_goals refine ⟨by rw [any_iff (h3.iff k hinj)]; rfl, ⟨m, _, turn, cut k es, ?_, hown2, h3.del k hinj, h4.filter _, fun e he => h5 e (mem_cut.1 he).1, h6, h7, fun e he => h8 e (mem_cut.1 he).1, (map_cut k es).symm, rfl⟩, t1⟩
  all_goals exact O2.out.past (turned_map hturn2 (L := [m]) (by simp)) (by simpa using hne)

set_option maxRecDepth 100000 in
set_option maxHeartbeats 2000000 in
theorem tsetK (b : Nat) (F : List Nat) (n : Nat) (L : List ((Int × Int) × Int)) (k : (Int × Int)) (a : Int) (w : World) (h : tabK w b F n L) (hk : okK k) (hn : n < 4611686018427387904) :
    Calls Try.prog 29 #[.pointer (some ⟨b, 0, none⟩), mkK k, .int .i64 a] w fun e w' => e = .returned (.tuple #[]) ∧ tabK w' b F (n + 1) (drp k L ++ [(k, a)]) ∧ turned w w' F := by
  obtain ⟨m, D, turn, es, h1, h2, h3, h4, h5, h6, h7, h8, rfl, rfl⟩ := h
  have c1 := h1.cell 1 rfl
  have f1 := h1.free 1
  have hbl := h1.lt
  have hinj : ∀ e, e ∈ es → lkK e.1 = lkK k → e.1 = k := fun e he hh => key_inj keyedK mkinjK (h8 e he) hk hh
  have hne := obj_map_ne h1 h2
  have hw : IntKind.u64.wrap (turn + 1) = turn + 1 := IntWalk.u64_in _ (by omega)
  obtain ⟨wd, hwd⟩ : ∃ wd, wd = ((w.setCell ⟨b, 1, none⟩ (.int .u64 (turn + 1))).alloc (.cells #[.int .u16 k.1, .int .u16 k.2] 58)).drew := ⟨_, rfl⟩
  have oK : obj wd w.heap.size 58 [.int .u16 k.1, .int .u16 k.2] := by
    rw [hwd]
    have := obj.new (w.setCell ⟨b, 1, none⟩ (.int .u64 (turn + 1))) 58 [.int .u16 k.1, .int .u16 k.2]
    simp only [World.setCell, Array.size_modify] at this ⊢
    exact this.drew
  have o1 : obj wd b 92 [.map (some m), .int .u64 (turn + 1)] := by rw [hwd]; exact ((h1.set 1 _).alloc _).drew
  have c0d := o1.cell 0 rfl
  have c1d := o1.cell 1 rfl
  have k0 := oK.cell 0 rfl
  have k1 := oK.cell 1 rfl
  have t1 : turned w wd [b, m] := by rw [hwd]; exact turned_drew' (turned_alloc (turned_set (turned_refl w [b, m]) (List.mem_cons_self ..) _) _)
  have m1 : wd.ownsMap Try.prog 58 RT m n D := by rw [hwd]; exact ((ownsMap_past h2 (turned_set (turned_refl _ [b]) (List.mem_singleton.2 rfl) _) (fun e => hne (List.mem_singleton.1 e).symm)).alloc _).drew
  have hlt := h2.lt
  have R := Lib.hid (And.intro h1 (And.intro h3 (And.intro h4 (And.intro h5 (And.intro h6 (And.intro h7 (And.intro h8 hinj)))))))
  have O := Lib.hid o1
  have TT := Lib.hid t1
  have HW := Lib.hid hwd
  clear h1 h2 h3 h4 h5 h6 h7 h8 hinj o1 t1 hwd oK
  unfold mkK
  go_enter Try.func29, Try.ntmps29
  go_wp2
  refine region_tail 11 (by kernel_rfl) (by kernel_rfl) wd HW.out ?_
  simp only [List.take_succ_cons, List.take_zero, List.drop_succ_cons, List.drop_zero]
  iterate 11 still_step
  refine wpStill_nil ?_
  go_wp2_with (first
    | (at_mapUpdate; refine wpList_mapUpdate_own _ rfl _ _ _ 90 rfl 58 76 keyedK Try.underlying90 RT m n D rfl m1 (by have : maxLen = 9223372036854775807 := rfl; omega) _ _ (lkK k) rfl rfl hk (td (a, turn + 1)) [] rfl ?_; intro w2 hown2 hgrow2)
    | go_in)
  obtain ⟨h1, h3, h4, h5, h6, h7, h8, hinj⟩ := R.out
  go_end0
  have t2 : turned wd w2 [b, m] := turned_one hgrow2 (by simp)
  refine ⟨rfl, ⟨m, _, turn + 1, cut k es ++ [(k, a, turn + 1)], ?_, hown2, h3.put k hinj (keyedK.key hk) _, ?_, ?_, by omega, by omega, ?_, ?_, rfl⟩, turned_trans TT.out t2⟩
  · exact O.out.past (turned_one hgrow2 (L := [m]) (by simp)) (by simpa using hne)
  · refine List.pairwise_append.2 ⟨h4.filter _, by simp, fun x hx y hy => ?_⟩
    rw [List.mem_singleton] at hy
    subst hy
    have := h5 x (mem_cut.1 hx).1
    show x.2.2 < turn + 1
    omega
  · intro e he
    simp only [List.mem_append, List.mem_singleton] at he
    rcases he with he | rfl
    · have := h5 e (mem_cut.1 he).1; omega
    · show turn + 1 ≤ turn + 1; omega
  · intro e he
    simp only [List.mem_append, List.mem_singleton] at he
    rcases he with he | rfl
    · exact h8 e (mem_cut.1 he).1
    · exact hk
  · rw [List.map_append, map_cut]; rfl

def outK : Option ((Int × Int) × Int) → Value
  | none => .tuple #[mkK (0, 0), .int .i64 0, .bool false]
  | some x => .tuple #[mkK x.1, .int .i64 x.2, .bool true]
def NRelK (w : World) (m n : Nat) (D : DataW Unit) (es : List ((Int × Int) × Int × Int)) (ok : Value) (wr : World) : Prop :=
  ∃ (left : Lit → Bool) (cnt : Nat), wr.ranges Try.prog 58 RT m (w.heap.size + 1 + 1) n D left cnt ∧ w.grownBy wr none ∧ (∀ kl, left kl = true → Maps.has D kl = true) ∧
    ((ok = .bool false ∧ obj wr w.heap.size 58 [.int .u16 0, .int .u16 0] ∧ obj wr (w.heap.size + 1) 76 [.int .i64 0, .int .u64 0] ∧ ∀ e, e ∈ es → left (lkK e.1) = true) ∨
     ∃ c, ok = .bool true ∧ obj wr w.heap.size 58 [.int .u16 c.1.1, .int .u16 c.1.2] ∧ obj wr (w.heap.size + 1) 76 [.int .i64 c.2.1, .int .u64 c.2.2] ∧ Seen lkK es left c)
set_option maxRecDepth 100000 in
set_option maxHeartbeats 8000000 in
theorem tnextK (b : Nat) (F : List Nat) (n : Nat) (L : List ((Int × Int) × Int)) (w : World) (h : tabK w b F n L) :
    Calls Try.prog 40 #[.pointer (some ⟨b, 0, none⟩)] w fun e w' => e = .returned (outK (best L)) ∧ turned w w' [] := by
  obtain ⟨m, D, turn, es, h1, h2, h3, h4, h5, h6, h7, h8, rfl, rfl⟩ := h
  have c0 := cell_alloc (cell_alloc (h1.cell 0 rfl) (Obj.cells #[.int .u16 0, .int .u16 0] 58)) (Obj.cells #[.int .i64 0, .int .u64 0] 76)
  have c0w := h1.cell 0 rfl
  have hbl := h1.lt
  have oK := (obj.new w 58 [.int .u16 0, .int .u16 0]).alloc (Obj.cells #[.int .i64 0, .int .u64 0] 76)
  have o0 := obj.new (w.alloc (Obj.cells #[.int .u16 0, .int .u16 0] 58)) 76 [.int .i64 0, .int .u64 0]
  rw [World.size_alloc] at o0
  have h2' := (h2.alloc (Obj.cells #[.int .u16 0, .int .u16 0] 58)).alloc (Obj.cells #[.int .i64 0, .int .u64 0] 76)
  have R := Lib.hid (And.intro h3 (And.intro h4 h8))
  have O0 := Lib.hid o0
  have OK := Lib.hid oK
  have HAS := Lib.hid (fun kl => (h3.has kl))
  have hmlt := h2.lt
  have hz2 : ((w.alloc (Obj.cells #[.int .u16 0, .int .u16 0] 58)).alloc (Obj.cells #[.int .i64 0, .int .u64 0] 76)).heap.size = w.heap.size + 1 + 1 := by rw [World.size_alloc, World.size_alloc]
  have GA := Lib.hid (only_alloc (only_alloc (only_refl w none) (Obj.cells #[.int .u16 0, .int .u16 0] 58)) (Obj.cells #[.int .i64 0, .int .u64 0] 76))
  have H2' := Lib.hid h2'
  clear h1 h2 h3 h4 h5 h6 h7 h8 o0 oK h2'
  have HZ2 := Lib.hid hz2
  clear hz2
  go_enter Try.func40, Try.ntmps40
  go_wp2_with (first
    | (at_range; refine wpList_range_own _ rfl _ 90 rfl 58 76 keyedK Try.underlying90 RT m n D rfl H2'.out ?_; intro w0 hrg0 hg0 hs0)
    | go_in)
  go_frame
  rw [HZ2.out] at hrg0 hs0 ⊢
  go_loopw [4] (fun ok wr => NRelK w m n D es ok wr) (fun _ wr => wr.rangeLeft m (w.heap.size + 1 + 1))
  case atStart =>
    refine ⟨_, _, hrg0, GA.out.andThen hg0 (fun j hj => by cases hj), fun _ h => h, Or.inl ⟨rfl, OK.out.kept hg0 (by simp), O0.out.kept hg0 (by simp), fun e he => (HAS.out _).2 ⟨e, he, rfl⟩⟩⟩
  case round =>
    clear c0 c0w
    obtain ⟨left, cnt, hrg, hgw, hleft, hcase⟩ := hrel
    rcases hcase with ⟨rfl, hok, ho, hall⟩ | ⟨c, rfl, hok, ho, hseen⟩
    · go_wp2_with (first
        | (at_next; refine wpList_next_ranges _ rfl _ rfl 58 keyedK RT mkK tv (fun key kl hkey => (invK key kl hkey).imp fun x h => h.1) (fun v y hv => (RT_inv hv).imp fun x h => h.1) m (w.heap.size + 1 + 1) n _ _ _ rfl hrg ?_ ?_)
        | go_in)
      · intro _ hl0
        obtain ⟨h3, h4, h8⟩ := R.out
        have z0 := ho.cell 0 rfl
        have y0 := hok.cell 0 rfl
        have y1 := hok.cell 1 rfl
        have y2 := hok.free 0
        have y3 := hok.free 1
        have HOK := Lib.hid hok
        clear hrg hleft ho HAS O0 hok
        go_wp2
        go_region
        go_wp2
        have : es = [] := by
          cases es with
          | nil => rfl
          | cons e r => have h1 := hall e (by simp); rw [hl0] at h1; cases h1
        subst this
        have o9 := ((HOK.out.set 0 (.int .u16 0)).set 1 (.int .u16 0)).drew
        have v0 := o9.cell 0 rfl
        have v1 := o9.cell 1 rfl
        exact bodyPost_ret (v := outK none) (by simp [outK, mkK, results, Try.results40, go_sem, v0, v1]) rfl ⟨rfl, turned_none (only_drew (only_setNew (only_setNew hgw (Nat.le_refl _) _) (Nat.le_refl _) _))⟩
      · intro x1 x2 va vu kl y1 y2 w1 cnt1 hkey hlk hv hat hrg1 hlt hg1 hs1 hen
        obtain ⟨h3, h4, h8⟩ := R.out
        obtain ⟨e, he, ex, ev, rfl⟩ := entry_of h3 keyedK mkinjK h8 hkey (hleft _ hlk) hv hat
        have hgw1 : w.grownBy w1 none := hgw.andThen hg1 (fun j hj => by cases hj; exact Or.inl (by omega))
        have ho1 := ho.kept hg1 (by simp)
        have hok1 := hok.kept hg1 (by simp; omega)
        have ex1 : x1 = e.1.1 := congrArg Prod.fst ex
        have ex2 : x2 = e.1.2 := congrArg Prod.snd ex
        clear ex
        have ev1 : va = e.2.1 := congrArg Prod.fst ev
        have ev2 : vu = e.2.2 := congrArg Prod.snd ev
        subst ex1 ex2 ev1 ev2
        clear ev
        have hleft1 : ∀ kl, (left kl && !kl.sameKey (lkK e.1)) = true → Maps.has D kl = true := fun kl h => hleft kl (by cases hl : left kl; rw [hl] at h; cases h; rfl)
        unfold tv mkK at hen
        have oKN := (obj.new w1 58 [.int .u16 e.1.1, .int .u16 e.1.2]).alloc (Obj.cells #[.int .i64 e.2.1, .int .u64 e.2.2] 76)
        have oTN := obj.new (w1.alloc (Obj.cells #[.int .u16 e.1.1, .int .u16 e.1.2] 58)) 76 [.int .i64 e.2.1, .int .u64 e.2.2]
        rw [World.size_alloc, hs1] at oTN
        rw [hs1] at oKN
        have oF := (ho1.alloc (Obj.cells #[.int .u16 e.1.1, .int .u16 e.1.2] 58)).alloc (Obj.cells #[.int .i64 e.2.1, .int .u64 e.2.2] 76)
        have oKF := (hok1.alloc (Obj.cells #[.int .u16 e.1.1, .int .u16 e.1.2] 58)).alloc (Obj.cells #[.int .i64 e.2.1, .int .u64 e.2.2] 76)
        have hg2 := only_alloc (only_alloc hgw1 (Obj.cells #[.int .u16 e.1.1, .int .u16 e.1.2] 58)) (Obj.cells #[.int .i64 e.2.1, .int .u64 e.2.2] 76)
        have hrg2 := (hrg1.alloc (Obj.cells #[.int .u16 e.1.1, .int .u16 e.1.2] 58)).alloc (Obj.cells #[.int .i64 e.2.1, .int .u64 e.2.2] 76)
        have hwl := ho.lt
        have OKN := Lib.hid oKN
        have OTN := Lib.hid oTN
        have OF := Lib.hid oF
        have OKF := Lib.hid oKF
        have HG2 := Lib.hid hg2
        have HRG2 := Lib.hid hrg2
        have HRG := Lib.hid hrg
        clear oKN oTN oF oKF hg2 hrg2 hrg1 hrg hgw1 ho1 hok1 ho hok hg1
        go_wp2_with fail
        have hsz2 : w1.heap.size ≤ ((w1.alloc (Obj.cells #[.int .u16 e.1.1, .int .u16 e.1.2] 58)).alloc (Obj.cells #[.int .i64 e.2.1, .int .u64 e.2.2] 76)).heap.size := by simp; omega
        generalize ((w1.alloc (Obj.cells #[.int .u16 e.1.1, .int .u16 e.1.2] 58)).alloc (Obj.cells #[.int .i64 e.2.1, .int .u64 e.2.2] 76)) = w2 at OKN OTN OF OKF HG2 HRG2 hsz2 ⊢
        have q0 := OKN.out.cell 0 rfl
        have q1 := OKN.out.cell 1 rfl
        have n0 := OTN.out.cell 0 rfl
        have n1 := OTN.out.cell 1 rfl
        have f0 := OF.out.free 0
        have f1 := OF.out.free 1
        have g0 := OKF.out.free 0
        have g1 := OKF.out.free 1
        have f0' := OF.out.cell 0 rfl
        have f1' := OF.out.cell 1 rfl
        have g0' := OKF.out.cell 0 rfl
        have g1' := OKF.out.cell 1 rfl
        go_region
        have gA := only_set (only_set (only_refl w2 (some w.heap.size)) (i := 0) (.int .u16 e.1.1)) (i := 1) (.int .u16 e.1.2)
        have gB := only_drew (only_set (only_set (only_refl ((w2.setCell ⟨w.heap.size, 0, none⟩ (.int .u16 e.1.1)).setCell ⟨w.heap.size, 1, none⟩ (.int .u16 e.1.2)) (some (w.heap.size + 1))) (i := 0) (.int .i64 e.2.1)) (i := 1) (.int .u64 e.2.2))
        have hr3 := (HRG2.out.kept gA (fun h => by have := Option.some.inj h; omega) (fun h => by have := Option.some.inj h; omega)).kept gB (fun h => by have := Option.some.inj h; omega) (fun h => by have := Option.some.inj h; omega)
        go_roundw
        case rel =>
          first | refine ⟨_, _, _, _, _, _, _, _, _, _, _, _, _, _, _, _, _, ?_, rfl⟩ | skip
          refine ⟨_, cnt1, hr3, only_drew (only_setNew (only_setNew (only_setNew (only_setNew HG2.out (Nat.le_refl _) _) (Nat.le_refl _) _) (Nat.le_succ _) _) (Nat.le_succ _) _), hleft1, Or.inr ⟨e, rfl, (((((OKF.out).set 0 _).set 1 _).setOther (by show w.heap.size ≠ w.heap.size + 1; omega) _).setOther (by show w.heap.size ≠ w.heap.size + 1; omega) _).drew, (((((OF.out).setOther (by show w.heap.size + 1 ≠ w.heap.size; omega) _).setOther (by show w.heap.size + 1 ≠ w.heap.size; omega) _).set 0 _).set 1 _).drew, seen_first h3 keyedK mkinjK h8 hall he⟩⟩
        case measure => rw [hr3.left_eq, HRG.out.left_eq]; exact hlt
    · go_wp2_with (first
        | (at_next; refine wpList_next_ranges _ rfl _ rfl 58 keyedK RT mkK tv (fun key kl hkey => (invK key kl hkey).imp fun x h => h.1) (fun v y hv => (RT_inv hv).imp fun x h => h.1) m (w.heap.size + 1 + 1) n _ _ _ rfl hrg ?_ ?_)
        | go_in)
      · intro _ hl0
        obtain ⟨h3, h4, h8⟩ := R.out
        have z0 := ho.cell 0 rfl
        have y0 := hok.cell 0 rfl
        have y1 := hok.cell 1 rfl
        have y2 := hok.free 0
        have y3 := hok.free 1
        have HOK := Lib.hid hok
        clear hrg hleft ho HAS O0 hok
        go_wp2
        go_region
        go_wp2
        have o9 := ((HOK.out.set 0 (.int .u16 c.1.1)).set 1 (.int .u16 c.1.2)).drew
        have v0 := o9.cell 0 rfl
        have v1 := o9.cell 1 rfl
        refine bodyPost_ret (v := outK (some (fst2 c))) (by simp [outK, mkK, fst2, results, Try.results40, go_sem, v0, v1]) rfl ⟨?_, turned_none (only_drew (only_setNew (only_setNew hgw (Nat.le_refl _) _) (Nat.le_refl _) _))⟩
        rw [best_turns h4 hseen.1 (fun e he => hseen.2.2 e he (hl0 _))]
      · intro x1 x2 va vu kl y1 y2 w1 cnt1 hkey hlk hv hat hrg1 hlt hg1 hs1 hen
        obtain ⟨h3, h4, h8⟩ := R.out
        obtain ⟨e, he, ex, ev, rfl⟩ := entry_of h3 keyedK mkinjK h8 hkey (hleft _ hlk) hv hat
        have hgw1 : w.grownBy w1 none := hgw.andThen hg1 (fun j hj => by cases hj; exact Or.inl (by omega))
        have ho1 := ho.kept hg1 (by simp)
        have hok1 := hok.kept hg1 (by simp; omega)
        have ex1 : x1 = e.1.1 := congrArg Prod.fst ex
        have ex2 : x2 = e.1.2 := congrArg Prod.snd ex
        clear ex
        have ev1 : va = e.2.1 := congrArg Prod.fst ev
        have ev2 : vu = e.2.2 := congrArg Prod.snd ev
        subst ex1 ex2 ev1 ev2
        clear ev
        have hleft1 : ∀ kl, (left kl && !kl.sameKey (lkK e.1)) = true → Maps.has D kl = true := fun kl h => hleft kl (by cases hl : left kl; rw [hl] at h; cases h; rfl)
        unfold tv mkK at hen
        have oKN := (obj.new w1 58 [.int .u16 e.1.1, .int .u16 e.1.2]).alloc (Obj.cells #[.int .i64 e.2.1, .int .u64 e.2.2] 76)
        have oTN := obj.new (w1.alloc (Obj.cells #[.int .u16 e.1.1, .int .u16 e.1.2] 58)) 76 [.int .i64 e.2.1, .int .u64 e.2.2]
        rw [World.size_alloc, hs1] at oTN
        rw [hs1] at oKN
        have oF := (ho1.alloc (Obj.cells #[.int .u16 e.1.1, .int .u16 e.1.2] 58)).alloc (Obj.cells #[.int .i64 e.2.1, .int .u64 e.2.2] 76)
        have oKF := (hok1.alloc (Obj.cells #[.int .u16 e.1.1, .int .u16 e.1.2] 58)).alloc (Obj.cells #[.int .i64 e.2.1, .int .u64 e.2.2] 76)
        have hg2 := only_alloc (only_alloc hgw1 (Obj.cells #[.int .u16 e.1.1, .int .u16 e.1.2] 58)) (Obj.cells #[.int .i64 e.2.1, .int .u64 e.2.2] 76)
        have hrg2 := (hrg1.alloc (Obj.cells #[.int .u16 e.1.1, .int .u16 e.1.2] 58)).alloc (Obj.cells #[.int .i64 e.2.1, .int .u64 e.2.2] 76)
        have hwl := ho.lt
        have OKN := Lib.hid oKN
        have OTN := Lib.hid oTN
        have OF := Lib.hid oF
        have OKF := Lib.hid oKF
        have HG2 := Lib.hid hg2
        have HRG2 := Lib.hid hrg2
        have HRG := Lib.hid hrg
        clear oKN oTN oF oKF hg2 hrg2 hrg1 hrg hgw1 ho1 hok1 ho hok hg1
        have n0 := OTN.out.cell 0 rfl
        have n1 := OTN.out.cell 1 rfl
        have f0' := OF.out.cell 0 rfl
        have f1' := OF.out.cell 1 rfl
        cases hah : ahd e.2 c.2
        · go_wp2_with (first
            | (go_at_call 38; refine (ahead_any e.2 c.2 _).mono ?_; rintro e9 w2 ⟨rfl, hg3⟩; rw [hah])
            | go_in)
          have hr3 := HRG2.out.kept hg3 (by simp) (by simp)
          go_roundw
          case rel =>
            first | refine ⟨_, _, _, _, _, _, _, _, _, _, _, _, _, _, _, _, _, ?_, rfl⟩ | skip
            refine ⟨_, cnt1, hr3, only_trans HG2.out hg3, hleft1, Or.inr ⟨c, rfl, OKF.out.kept hg3 (by simp), OF.out.kept hg3 (by simp), seen_keep h3 keyedK mkinjK h8 hseen he hah⟩⟩
          case measure => rw [hr3.left_eq, HRG.out.left_eq]; exact hlt
        · go_wp2_with (first
            | (go_at_call 38; refine (ahead_any e.2 c.2 _).mono ?_; rintro e9 w2 ⟨rfl, hg3⟩; rw [hah]; have TN2 := Lib.hid (OTN.out.kept hg3 (by simp)); have KN2 := Lib.hid (OKN.out.kept hg3 (by simp)); have F2 := Lib.hid (OF.out.kept hg3 (by simp)); have KF2 := Lib.hid (OKF.out.kept hg3 (by simp)); have hsz2 : w1.heap.size ≤ w2.heap.size := Nat.le_trans (by simp; omega) hg3.size; clear n0 n1 f0' f1')
            | go_in)
          have q0 := KN2.out.cell 0 rfl
          have q1 := KN2.out.cell 1 rfl
          have n0 := TN2.out.cell 0 rfl
          have n1 := TN2.out.cell 1 rfl
          have f0 := F2.out.free 0
          have f1 := F2.out.free 1
          have g0 := KF2.out.free 0
          have g1 := KF2.out.free 1
          have f0' := F2.out.cell 0 rfl
          have f1' := F2.out.cell 1 rfl
          have g0' := KF2.out.cell 0 rfl
          have g1' := KF2.out.cell 1 rfl
          go_region
          have gA := only_set (only_set (only_refl w2 (some w.heap.size)) (i := 0) (.int .u16 e.1.1)) (i := 1) (.int .u16 e.1.2)
          have gB := only_drew (only_set (only_set (only_refl ((w2.setCell ⟨w.heap.size, 0, none⟩ (.int .u16 e.1.1)).setCell ⟨w.heap.size, 1, none⟩ (.int .u16 e.1.2)) (some (w.heap.size + 1))) (i := 0) (.int .i64 e.2.1)) (i := 1) (.int .u64 e.2.2))
          have hr3 := ((HRG2.out.kept hg3 (by simp) (by simp)).kept gA (fun h => by have := Option.some.inj h; omega) (fun h => by have := Option.some.inj h; omega)).kept gB (fun h => by have := Option.some.inj h; omega) (fun h => by have := Option.some.inj h; omega)
          go_roundw
          case rel =>
            first | refine ⟨_, _, _, _, _, _, _, _, _, _, _, _, _, _, _, _, _, ?_, rfl⟩ | skip
            refine ⟨_, cnt1, hr3, only_drew (only_setNew (only_setNew (only_setNew (only_setNew (only_trans HG2.out hg3) (Nat.le_refl _) _) (Nat.le_refl _) _) (Nat.le_succ _) _) (Nat.le_succ _) _), hleft1, Or.inr ⟨e, rfl, (((((KF2.out).set 0 _).set 1 _).setOther (by show w.heap.size ≠ w.heap.size + 1; omega) _).setOther (by show w.heap.size ≠ w.heap.size + 1; omega) _).drew, (((((F2.out).setOther (by show w.heap.size + 1 ≠ w.heap.size; omega) _).setOther (by show w.heap.size + 1 ≠ w.heap.size; omega) _).set 0 _).set 1 _).drew, seen_new h3 keyedK mkinjK h8 hseen he hah⟩⟩
          case measure => rw [hr3.left_eq, HRG.out.left_eq]; exact hlt
set_option maxRecDepth 100000 in
set_option maxHeartbeats 4000000 in
theorem tpopK_no (b : Nat) (F : List Nat) (n : Nat) (L : List ((Int × Int) × Int)) (now : Int) (w : World) (h : tabK w b F n L) (hb : ∀ x, best L = some x → now < x.2) :
    Calls Try.prog 33 #[.pointer (some ⟨b, 0, none⟩), .int .i64 now] w fun e w' => e = .returned (.tuple #[mkK (0, 0), .bool false]) ∧ turned w w' [] := by
  have t1 : turned w (w.alloc (.cells #[.int .u16 0, .int .u16 0] 58)) [] := turned_alloc (turned_refl w []) _
  have oR := Lib.hid (obj.new w 58 [.int .u16 0, .int .u16 0])
  have hc := tnextK b F n L _ (h.past t1 (by simp))
  have T1 := Lib.hid t1
  clear h t1
  cases hbest : best L with
  | none =>
    rw [hbest] at hc
    have HC := Lib.hid hc
    clear hc hb
    go_enter Try.func33, Try.ntmps33
    go_wp2_with fail
    refine HC.out.mono ?_
    rintro e w2 ⟨rfl, t2⟩
    unfold outK mkK
    have O2 := oR.out.past t2 (by simp)
    have hw2 := O2.lt
    have y0 := O2.cell 0 rfl
    have y1 := O2.cell 1 rfl
    have y2 := O2.free 0
    have y3 := O2.free 1
    have T2 := Lib.hid (turned_trans T1.out t2)
    have O2' := Lib.hid O2
    clear t2 O2
    go_wp2_with fail
    have o9 := ((O2'.out.set 0 (.int .u16 0)).set 1 (.int .u16 0)).alloc (.cells #[.int .u16 0, .int .u16 0] 58)
    have v0 := o9.cell 0 rfl
    have v1 := o9.cell 1 rfl
    refine bodyPost_ret (v := .tuple #[mkK (0, 0), .bool false]) (by simp [mkK, results, Try.results33, go_sem, v0, v1]) rfl ⟨rfl, ?_⟩
    exact turned_alloc (turned_setN (turned_setN T2.out (Nat.le_refl _) _) (Nat.le_refl _) _) _
  | some x =>
    have hlt := hb x hbest
    rw [hbest] at hc
    have HC := Lib.hid hc
    clear hc hb
    go_enter Try.func33, Try.ntmps33
    go_wp2_with fail
    refine HC.out.mono ?_
    rintro e w2 ⟨rfl, t2⟩
    unfold outK mkK
    have O2 := oR.out.past t2 (by simp)
    have hw2 := O2.lt
    have y0 := O2.cell 0 rfl
    have y1 := O2.cell 1 rfl
    have y2 := O2.free 0
    have y3 := O2.free 1
    have T2 := Lib.hid (turned_trans T1.out t2)
    have O2' := Lib.hid O2
    clear t2 O2
    go_wp2_with fail
    have o9 := ((O2'.out.set 0 (.int .u16 0)).set 1 (.int .u16 0)).alloc (.cells #[.int .u16 x.1.1, .int .u16 x.1.2] 58)
    have v0 := o9.cell 0 rfl
    have v1 := o9.cell 1 rfl
    refine bodyPost_ret (v := .tuple #[mkK (0, 0), .bool false]) (by simp [mkK, results, Try.results33, go_sem, v0, v1]) rfl ⟨rfl, ?_⟩
    exact turned_alloc (turned_setN (turned_setN T2.out (Nat.le_refl _) _) (Nat.le_refl _) _) _
set_option maxRecDepth 100000 in
set_option maxHeartbeats 4000000 in
theorem tpopK_yes (b : Nat) (F : List Nat) (n : Nat) (L : List ((Int × Int) × Int)) (x : (Int × Int) × Int) (now : Int) (w : World) (h : tabK w b F n L) (hbest : best L = some x) (hle : x.2 ≤ now) :
    Calls Try.prog 33 #[.pointer (some ⟨b, 0, none⟩), .int .i64 now] w fun e w' => e = .returned (.tuple #[mkK x.1, .bool true]) ∧ tabK w' b F n (drp x.1 L) ∧ turned w w' F := by
  have t1 : turned w (w.alloc (.cells #[.int .u16 0, .int .u16 0] 58)) [] := turned_alloc (turned_refl w []) _
  have oR := Lib.hid (obj.new w 58 [.int .u16 0, .int .u16 0])
  have h1 := h.past t1 (by simp)
  have hc := tnextK b F n L _ h1
  rw [hbest] at hc
  have hm := best_mem hbest
  have hk := h.ok hm
  have HFL := Lib.hid h.lt
  have H1 := Lib.hid h1
  have HC := Lib.hid hc
  have HM := Lib.hid hm
  have HK := Lib.hid hk
  have T1 := Lib.hid t1
  clear h t1 h1 hc hm hk hbest
  go_enter Try.func33, Try.ntmps33
  go_wp2_with fail
  refine HC.out.mono ?_
  rintro e w2 ⟨rfl, t2⟩
  unfold outK mkK
  have O2 := oR.out.past t2 (by simp)
  have T2 := Lib.hid (turned_trans T1.out t2)
  have H2 := Lib.hid (H1.out.past t2 (by simp))
  clear t2
  have O2' := Lib.hid O2
  clear O2
  go_wp2_with fail
  generalize hw3 : w2.alloc _ = w3
  have oP := newK_of hw3
  have t3 : turned w2 w3 [] := by rw [← hw3]; exact turned_alloc (turned_refl w2 []) _
  clear hw3
  have O3 := Lib.hid (O2'.out.past t3 (by simp))
  have H3 := Lib.hid (H2.out.past t3 (by simp))
  have T3 := Lib.hid (turned_trans T2.out t3)
  have OP := Lib.hid oP
  have hrl := O2'.out.lt
  clear t3 oP
  have p0 := OP.out.cell 0 rfl
  have p1 := OP.out.cell 1 rfl
  have r0 := O3.out.cell 0 rfl
  have r1 := O3.out.cell 1 rfl
  have r2 := O3.out.free 0
  have r3 := O3.out.free 1
  have hFr : ∀ k, k ∈ F → k < w.heap.size := HFL.out
  have HFR := Lib.hid hFr
  clear hFr
  have n1 : w.heap.size ∉ F := fun e => absurd (HFR.out _ e) (Nat.lt_irrefl _)
  have n2 : w2.heap.size ∉ F := fun e => by have := HFR.out _ e; have := T2.out.2.2.2.1; omega
  have N1 := Lib.hid n1
  have N2 := Lib.hid n2
  clear n1 n2
  go_region_held3 (fun w' => w'.cell? ⟨w2.heap.size, 0, none⟩ = some (.int .u16 x.1.1) ∧ w'.cell? ⟨w2.heap.size, 1, none⟩ = some (.int .u16 x.1.2)) (first | (simp [go_sem, *]; done) | assumption) (first
    | (go_at_call 31; ((refine (tstopK b F n L x.1 _ (H3.out.past (turned_drew _ []) (by simp)) HK.out).mono ?_)); rintro e w4 ⟨rfl, h4, t4⟩; rw [decide_eq_true (show ∃ y, y ∈ L ∧ y.1 = x.1 from ⟨x, HM.out, rfl⟩)]; have t4' := turned_trans (turned_more (turned_drew w3 []) (by simp)) t4; have O4 := Lib.hid (O3.out.past t4' N1.out); have P4 := Lib.hid (OP.out.past t4' N2.out); have H4 := Lib.hid h4; have T4 := Lib.hid (turned_trans (turned_more T3.out (by simp)) t4'); clear t4 t4' h4 p0 p1 r0 r1 r2 r3; have p0 := P4.out.cell 0 rfl; have p1 := P4.out.cell 1 rfl; have r0 := O4.out.cell 0 rfl; have r1 := O4.out.cell 1 rfl; have r2 := O4.out.free 0; have r3 := O4.out.free 1))
  all_goals go_wp2_with fail
  all_goals have o9 := (O4.out.set 0 (.int .u16 x.1.1)).set 1 (.int .u16 x.1.2)
  all_goals have v0 := o9.cell 0 rfl
  all_goals have v1 := o9.cell 1 rfl
  all_goals refine bodyPost_ret (v := .tuple #[mkK x.1, .bool true]) (by simp [mkK, results, Try.results33, go_sem, v0, v1]) rfl ⟨rfl, H4.out.past (turned_set (turned_set (turned_refl w4 [w.heap.size]) (List.mem_singleton.2 rfl) _) (List.mem_singleton.2 rfl) _) (fun k hk e => ?_), ?_⟩
  all_goals first | exact turned_setN (turned_setN T4.out (Nat.le_refl _) _) (Nat.le_refl _) _ | (rw [List.mem_singleton] at e; subst e; exact N1.out hk)
end Go.Proofs.Ytebdnciehobfaaa
