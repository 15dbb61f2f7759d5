/- The methods of a table of times by keys of type int. Conditions: the table lies in memory with these times. -/
import Derived.Test.YtebdnciehobfaaaTimAhd
import Derived.WalkLawsBesides
import Derived.Deep.RegionLaw
import Derived.Outline
import Derived.BigQuiet
namespace Go.Proofs.Ytebdnciehobfaaa
open Go.RowKit Go.Maps
set_option linter.unusedVariables false
set_option linter.unusedSimpArgs false

def mkI (x : Int) : Value := .int .i64 x
def lkI (x : Int) : Lit := .int .i64 x
theorem keyedI : Keyed Try.prog 3 := int_keyed Try.underlying3
theorem mkinjI : ∀ x y, mkI x = mkI y → x = y := fun x y h => by simpa [mkI] using h
theorem zeroI (w : World) : (zeroValue 76).run Try.prog w = .ok (tv (0, 0)) w := by kernel_rfl
abbrev tabI (w : World) (b : Nat) (F : List Nat) (n : Nat) (L : List (Int × Int)) : Prop := tab Try.prog 74 3 mkI lkI w b F n L
def okI (x : Int) : Prop := keyOf Try.prog 3 (mkI x) = some (lkI x)

theorem keyI {x : Int} (h : (Lit.int .i64 x).wf = true) : okI x := keyOf_int_mk Try.underlying3 h
theorem invI (v : Value) (kl : Lit) (h : keyOf Try.prog 3 v = some kl) : ∃ x, v = mkI x ∧ kl = lkI x := by
  obtain ⟨x, h1, h2, _⟩ := Maps.keyOf_int_inv Try.underlying3 h
  exact ⟨x, h1, h2⟩

set_option maxHeartbeats 1000000 in
theorem tnewI (w : World) :
    Calls Try.prog 11 #[] w fun e w' => e = .returned (.pointer (some ⟨w.heap.size + 1, 0, none⟩)) ∧ tabI w' (w.heap.size + 1) [w.heap.size + 1, w.heap.size] 0 [] ∧ w.grownBy w' none := by
  have hmm := @run_makeMap Try.prog
  go_enter Try.func11, Try.ntmps11
  go_wp2
  go_ret
  refine ⟨rfl, ⟨w.heap.size, _, 0, [], ?_, (World.ownsMap_made w Try.prog 3 RT).alloc _, Agree.empty _, by simp, by simp, by simp, by simp, by simp, rfl, rfl⟩, only_alloc (only_alloc (only_refl _ _) _) _⟩
  have := obj.new (w.alloc (.map #[] 0)) 74 [.map (some w.heap.size), .int .u64 0]
  simpa using this

set_option maxHeartbeats 1000000 in
theorem tlenI (b : Nat) (F : List Nat) (n : Nat) (L : List (Int × Int)) (w : World) (h : tabI w b F n L) :
    Calls Try.prog 20 #[.pointer (some ⟨b, 0, none⟩)] w fun e w' => e = .returned (.int .i64 (L.length : Int)) ∧ w = w' := by
  obtain ⟨m, D, turn, es, h1, h2, h3, h4, h5, h6, h7, h8, rfl, rfl⟩ := h
  have c0 := h1.cell 0 rfl
  have hsz := h3.size
  clear h1 h3 h4 h5 h6 h7 h8
  go_enter Try.func20, Try.ntmps20
  go_wp2_with (first | (at_len; refine wpList_len_own _ rfl _ 71 rfl 3 76 Try.underlying71 _ m n D rfl h2 ?_) | go_in)
  go_ret
  exact ⟨by rw [List.length_map]; rfl, rfl⟩
set_option maxHeartbeats 1000000 in
theorem tlenI_nil (w : World) :
    Calls Try.prog 20 #[.pointer none] w fun e w' => e = .returned (.int .i64 0) ∧ w = w' := by
  go_enter Try.func20, Try.ntmps20
  go_wp2
  go_ret
  exact ⟨rfl, rfl⟩

set_option maxHeartbeats 2000000 in
theorem tstopI (b : Nat) (F : List Nat) (n : Nat) (L : List (Int × Int)) (k : Int) (w : World) (h : tabI w b F n L) (hk : okI k) :
    Calls Try.prog 14 #[.pointer (some ⟨b, 0, none⟩), mkI k] w fun e w' => e = .returned (.bool (decide (∃ x, x ∈ L ∧ x.1 = k))) ∧ tabI w' b F n (drp k L) ∧ turned w w' F := by
  obtain ⟨m, D, turn, es, h1, h2, h3, h4, h5, h6, h7, h8, rfl, rfl⟩ := h
  have c0 := h1.cell 0 rfl
  have hinj : ∀ e, e ∈ es → lkI e.1 = lkI k → e.1 = k := fun e he hh => key_inj keyedI mkinjI (h8 e he) hk hh
  have hne := obj_map_ne h1 h2
  have hlt := h2.lt
  have R := Lib.hid (And.intro h1 (And.intro h3 (And.intro h4 (And.intro h5 (And.intro h6 (And.intro h7 (And.intro h8 hinj)))))))
  clear h1 h3 h4 h5 h6 h7 h8 hinj
  go_enter Try.func14, Try.ntmps14
  go_wp2_with (first
    | (at_lookup; refine wpList_lookup_own_ok _ rfl _ _ 71 rfl 3 76 keyedI Try.underlying71 RT (zeroI _) (td (0, 0)) [] (RT_mk _) m n D rfl h2 _ (lkI k) rfl hk ?_; intro v ps hv; obtain ⟨v1, rfl, _⟩ := RT_inv hv; clear hv; have c0' := cell_alloc c0 (Obj.cells #[.int .i64 v1.1, .int .u64 v1.2] 76); have h2' := h2.alloc (Obj.cells #[.int .i64 v1.1, .int .u64 v1.2] 76); unfold tv)
    | (at_delete; refine wpList_delete_own _ rfl _ _ 71 3 rfl 76 keyedI Try.underlying71 RT m n D rfl h2' _ (lkI k) rfl hk ?_; intro w2 hown2 hturn2)
    | go_in)
  obtain ⟨h1, h3, h4, h5, h6, h7, h8, hinj⟩ := R.out
  go_ret
  have t1 := turned_trans (turned_alloc (turned_refl w [b, m]) _) (turned_map hturn2 (L := [b, m]) (by simp))
  refine ⟨by rw [any_iff (h3.iff k hinj)]; rfl, ⟨m, _, turn, cut k es, ?_, hown2, h3.del k hinj, h4.filter _, fun e he => h5 e (mem_cut.1 he).1, h6, h7, fun e he => h8 e (mem_cut.1 he).1, (map_cut k es).symm, rfl⟩, t1⟩
  exact (h1.alloc _).past (turned_map hturn2 (L := [m]) (by simp)) (by simpa using hne)
set_option maxHeartbeats 1000000 in
theorem tstopI_nil (k : Int) (w : World) :
    Calls Try.prog 14 #[.pointer none, mkI k] w fun e w' => e = .returned (.bool false) ∧ w = w' := by
  go_enter Try.func14, Try.ntmps14
  go_wp2
  go_ret
  exact ⟨rfl, rfl⟩

set_option maxHeartbeats 2000000 in
theorem tsetI (b : Nat) (F : List Nat) (n : Nat) (L : List (Int × Int)) (k : Int) (a : Int) (w : World) (h : tabI w b F n L) (hk : okI k) (hn : n < 4611686018427387904) :
    Calls Try.prog 12 #[.pointer (some ⟨b, 0, none⟩), mkI k, .int .i64 a] w fun e w' => e = .returned (.tuple #[]) ∧ tabI w' b F (n + 1) (drp k L ++ [(k, a)]) ∧ turned w w' F := by
  obtain ⟨m, D, turn, es, h1, h2, h3, h4, h5, h6, h7, h8, rfl, rfl⟩ := h
  have c1 := h1.cell 1 rfl
  have f1 := h1.free 1
  have hinj : ∀ e, e ∈ es → lkI e.1 = lkI k → e.1 = k := fun e he hh => key_inj keyedI mkinjI (h8 e he) hk hh
  have hne := obj_map_ne h1 h2
  have hw : IntKind.u64.wrap (turn + 1) = turn + 1 := IntWalk.u64_in _ (by omega)
  obtain ⟨wd, hwd⟩ : ∃ wd, wd = (w.setCell ⟨b, 1, none⟩ (.int .u64 (turn + 1))).drew := ⟨_, rfl⟩
  have o1 : obj wd b 74 [.map (some m), .int .u64 (turn + 1)] := by rw [hwd]; exact h1.set 1 _
  have c0d := o1.cell 0 rfl
  have c1d := o1.cell 1 rfl
  have t1 : turned w wd [b, m] := by rw [hwd]; exact (turned_set (turned_refl w [b, m]) (List.mem_cons_self ..) _)
  have m1 : wd.ownsMap Try.prog 3 RT m n D := by rw [hwd]; exact (ownsMap_past h2 (turned_set (turned_refl w [b]) (List.mem_singleton.2 rfl) _) (fun e => hne (List.mem_singleton.1 e).symm)).drew
  have hlt := h2.lt
  have R := Lib.hid (And.intro h1 (And.intro h3 (And.intro h4 (And.intro h5 (And.intro h6 (And.intro h7 (And.intro h8 hinj)))))))
  have O := Lib.hid o1
  have TT := Lib.hid t1
  have HW := Lib.hid hwd
  clear h1 h2 h3 h4 h5 h6 h7 h8 hinj o1 t1 hwd
  go_enter Try.func12, Try.ntmps12
  go_wp2
  refine region_tail 11 (by kernel_rfl) (by kernel_rfl) wd HW.out ?_
  simp only [List.take_succ_cons, List.take_zero, List.drop_succ_cons, List.drop_zero]
  iterate 11 still_step
  refine wpStill_nil ?_
  go_wp2_with (first
    | (at_mapUpdate; refine wpList_mapUpdate_own _ rfl _ _ _ 71 rfl 3 76 keyedI Try.underlying71 RT m n D rfl m1 (by have : maxLen = 9223372036854775807 := rfl; omega) _ _ (lkI k) rfl rfl hk (td (a, turn + 1)) [] rfl ?_; intro w2 hown2 hgrow2)
    | go_in)
  obtain ⟨h1, h3, h4, h5, h6, h7, h8, hinj⟩ := R.out
  go_end0
  have t2 : turned wd w2 [b, m] := turned_one hgrow2 (by simp)
  refine ⟨rfl, ⟨m, _, turn + 1, cut k es ++ [(k, a, turn + 1)], ?_, hown2, h3.put k hinj (keyedI.key hk) _, ?_, ?_, by omega, by omega, ?_, ?_, rfl⟩, turned_trans TT.out t2⟩
  · exact O.out.past (turned_one hgrow2 (L := [m]) (by simp)) (by simpa using hne)
  · refine List.pairwise_append.2 ⟨h4.filter _, by simp, fun x hx y hy => ?_⟩
    rw [List.mem_singleton] at hy
    subst hy
    have := h5 x (mem_cut.1 hx).1
    show x.2.2 < turn + 1
    omega
  · intro e he
    simp only [List.mem_append, List.mem_singleton] at he
    rcases he with he | rfl
    · have := h5 e (mem_cut.1 he).1; omega
    · show turn + 1 ≤ turn + 1; omega
  · intro e he
    simp only [List.mem_append, List.mem_singleton] at he
    rcases he with he | rfl
    · exact h8 e (mem_cut.1 he).1
    · exact hk
  · rw [List.map_append, map_cut]; rfl
set_option maxHeartbeats 1000000 in
theorem tsetI_nil (k : Int) (a : Int) (w : World) :
    Calls Try.prog 12 #[.pointer none, mkI k, .int .i64 a] w fun e w' => e = .returned (.tuple #[]) ∧ w = w' := by
  go_enter Try.func12, Try.ntmps12
  go_wp2
  go_end0
  exact ⟨rfl, rfl⟩

def outI : Option (Int × Int) → Value
  | none => .tuple #[mkI 0, .int .i64 0, .bool false]
  | some x => .tuple #[mkI x.1, .int .i64 x.2, .bool true]
def NRelI (w : World) (m n : Nat) (D : DataW Unit) (es : List (Int × Int × Int)) (k ok : Value) (wr : World) : Prop :=
  ∃ (left : Lit → Bool) (cnt : Nat), wr.ranges Try.prog 3 RT m (w.heap.size + 1) n D left cnt ∧ w.grownBy wr none ∧ (∀ kl, left kl = true → Maps.has D kl = true) ∧
    ((ok = .bool false ∧ k = mkI 0 ∧ obj wr w.heap.size 76 [.int .i64 0, .int .u64 0] ∧ ∀ e, e ∈ es → left (lkI e.1) = true) ∨
     ∃ c, ok = .bool true ∧ k = mkI c.1 ∧ obj wr w.heap.size 76 [.int .i64 c.2.1, .int .u64 c.2.2] ∧ Seen lkI es left c)
set_option maxRecDepth 100000 in
set_option maxHeartbeats 4000000 in
theorem tnextI (b : Nat) (F : List Nat) (n : Nat) (L : List (Int × Int)) (w : World) (h : tabI w b F n L) :
    Calls Try.prog 16 #[.pointer (some ⟨b, 0, none⟩)] w fun e w' => e = .returned (outI (best L)) ∧ turned w w' [] := by
  obtain ⟨m, D, turn, es, h1, h2, h3, h4, h5, h6, h7, h8, rfl, rfl⟩ := h
  have c0 := cell_alloc (h1.cell 0 rfl) (Obj.cells #[.int .i64 0, .int .u64 0] 76)
  have o0 := obj.new w 76 [.int .i64 0, .int .u64 0]
  have h2' := h2.alloc (Obj.cells #[.int .i64 0, .int .u64 0] 76)
  have R := Lib.hid (And.intro h3 (And.intro h4 h8))
  have O0 := Lib.hid o0
  have HAS := Lib.hid (fun kl => (h3.has kl))
  have hmlt := h2.lt
  clear h1 h2 h3 h4 h5 h6 h7 h8 o0
  go_enter Try.func16, Try.ntmps16
  go_wp2_with (first
    | (at_range; refine wpList_range_own _ rfl _ 71 rfl 3 76 keyedI Try.underlying71 RT m n D rfl h2' ?_; intro w0 hrg0 hg0 hs0)
    | go_in)
  go_frame
  rw [show (w.alloc (Obj.cells #[.int .i64 0, .int .u64 0] 76)).heap.size = w.heap.size + 1 by simp] at hrg0 hs0 ⊢
  go_loopw [2, 4] (fun k ok wr => NRelI w m n D es k ok wr) (fun _ _ wr => wr.rangeLeft m (w.heap.size + 1))
  case atStart =>
    refine ⟨_, _, hrg0, (only_alloc (only_refl _ _) _).andThen hg0 (fun j hj => by cases hj), fun _ h => h, Or.inl ⟨rfl, rfl, O0.out.kept hg0 (by simp), fun e he => (HAS.out _).2 ⟨e, he, rfl⟩⟩⟩
  case round =>
    obtain ⟨left, cnt, hrg, hgw, hleft, hcase⟩ := hrel
    rcases hcase with ⟨rfl, rfl, ho, hall⟩ | ⟨c, rfl, rfl, ho, hseen⟩
    · go_wp2_with (first
        | (at_next; refine wpList_next_ranges _ rfl _ rfl 3 keyedI RT mkI tv (fun key kl hkey => (invI key kl hkey).imp fun x h => h.1) (fun v y hv => (RT_inv hv).imp fun x h => h.1) m (w.heap.size + 1) n _ _ _ rfl hrg ?_ ?_)
        | go_in)
      · intro _ hl0
        obtain ⟨h3, h4, h8⟩ := R.out
        have z0 := ho.cell 0 rfl
        clear hrg hleft ho HAS O0
        go_wp2
        go_quiet (fail)
        go_wp2
        go_ret3
        have : es = [] := by
          cases es with
          | nil => rfl
          | cons e r => have h1 := hall e (by simp); rw [hl0] at h1; cases h1
        subst this
        exact ⟨rfl, turned_none (only_drewN _ hgw)⟩
      · intro x va vu kl y1 y2 w1 cnt1 hkey hlk hv hat hrg1 hlt hg1 hs1 hen
        obtain ⟨h3, h4, h8⟩ := R.out
        obtain ⟨e, he, ex, ev, rfl⟩ := entry_of h3 keyedI mkinjI h8 hkey (hleft _ hlk) hv hat
        have hgw1 : w.grownBy w1 none := hgw.andThen hg1 (fun j hj => by cases hj; exact Or.inl (by omega))
        have ho1 := ho.kept hg1 (by simp)
        have ev1 : va = e.2.1 := congrArg Prod.fst ev
        have ev2 : vu = e.2.2 := congrArg Prod.snd ev
        subst ex ev1 ev2
        clear ev
        have hleft1 : ∀ kl, (left kl && !kl.sameKey (lkI e.1)) = true → Maps.has D kl = true := fun kl h => hleft kl (by cases hl : left kl; rw [hl] at h; cases h; rfl)
        unfold tv at hen
        have oN : obj (w1.alloc (Obj.cells #[.int .i64 e.2.1, .int .u64 e.2.2] 76)) wr.heap.size 76 [.int .i64 e.2.1, .int .u64 e.2.2] := by
          have := obj.new w1 76 [.int .i64 e.2.1, .int .u64 e.2.2]
          rw [hs1] at this
          exact this
        have oF : obj (w1.alloc (Obj.cells #[.int .i64 e.2.1, .int .u64 e.2.2] 76)) w.heap.size 76 [.int .i64 0, .int .u64 0] := ho1.alloc _
        have n0 := oN.cell 0 rfl
        have n1 := oN.cell 1 rfl
        have f0 := oF.free 0
        have f1 := oF.free 1
        have f0' := oF.cell 0 rfl
        have f1' := oF.cell 1 rfl
        go_wp2
        go_region
        go_roundw
        case rel =>
          refine ⟨_, _, _, _, _, _, _, _, _, _, _, _, _, _, _, _, _, _, ?_, rfl⟩
          have g3 := only_drew (only_set (only_set (only_refl (w1.alloc (Obj.cells #[.int .i64 e.2.1, .int .u64 e.2.2] 76)) (some w.heap.size)) (i := 0) (.int .i64 e.2.1)) (i := 1) (.int .u64 e.2.2))
          refine ⟨_, cnt1, (hrg1.alloc _).kept g3 (fun h => by have := Option.some.inj h; omega) (fun h => by have := Option.some.inj h; omega), only_drew (only_setNew (only_setNew (only_alloc hgw1 _) (Nat.le_refl _) _) (Nat.le_refl _) _), hleft1, Or.inr ⟨e, rfl, rfl, ((oF.set 0 _).set 1 _).drew, seen_first h3 keyedI mkinjI h8 hall he⟩⟩
        case measure =>
          have g3 := only_drew (only_set (only_set (only_refl (w1.alloc (Obj.cells #[.int .i64 e.2.1, .int .u64 e.2.2] 76)) (some w.heap.size)) (i := 0) (.int .i64 e.2.1)) (i := 1) (.int .u64 e.2.2))
          have hr3 := (hrg1.alloc (Obj.cells #[.int .i64 e.2.1, .int .u64 e.2.2] 76)).kept g3 (fun h => by have := Option.some.inj h; omega) (fun h => by have := Option.some.inj h; omega)
          rw [hr3.left_eq, hrg.left_eq]; exact hlt
    · go_wp2_with (first
        | (at_next; refine wpList_next_ranges _ rfl _ rfl 3 keyedI RT mkI tv (fun key kl hkey => (invI key kl hkey).imp fun x h => h.1) (fun v y hv => (RT_inv hv).imp fun x h => h.1) m (w.heap.size + 1) n _ _ _ rfl hrg ?_ ?_)
        | go_in)
      · intro _ hl0
        obtain ⟨h3, h4, h8⟩ := R.out
        have z0 := ho.cell 0 rfl
        clear hrg hleft ho HAS O0
        go_wp2
        go_quiet (fail)
        go_wp2
        go_ret3
        rw [best_turns h4 hseen.1 (fun e he => hseen.2.2 e he (hl0 _))]
        exact ⟨rfl, turned_none (only_drewN _ hgw)⟩
      · intro x va vu kl y1 y2 w1 cnt1 hkey hlk hv hat hrg1 hlt hg1 hs1 hen
        obtain ⟨h3, h4, h8⟩ := R.out
        obtain ⟨e, he, ex, ev, rfl⟩ := entry_of h3 keyedI mkinjI h8 hkey (hleft _ hlk) hv hat
        have hgw1 : w.grownBy w1 none := hgw.andThen hg1 (fun j hj => by cases hj; exact Or.inl (by omega))
        have ho1 := ho.kept hg1 (by simp)
        have ev1 : va = e.2.1 := congrArg Prod.fst ev
        have ev2 : vu = e.2.2 := congrArg Prod.snd ev
        subst ex ev1 ev2
        clear ev
        have hleft1 : ∀ kl, (left kl && !kl.sameKey (lkI e.1)) = true → Maps.has D kl = true := fun kl h => hleft kl (by cases hl : left kl; rw [hl] at h; cases h; rfl)
        unfold tv at hen
        have oN : obj (w1.alloc (Obj.cells #[.int .i64 e.2.1, .int .u64 e.2.2] 76)) wr.heap.size 76 [.int .i64 e.2.1, .int .u64 e.2.2] := by
          have := obj.new w1 76 [.int .i64 e.2.1, .int .u64 e.2.2]
          rw [hs1] at this
          exact this
        have oF : obj (w1.alloc (Obj.cells #[.int .i64 e.2.1, .int .u64 e.2.2] 76)) w.heap.size 76 [.int .i64 c.2.1, .int .u64 c.2.2] := ho1.alloc _
        have n0 := oN.cell 0 rfl
        have n1 := oN.cell 1 rfl
        have f0' := oF.cell 0 rfl
        have f1' := oF.cell 1 rfl
        have HRG1 := Lib.hid hrg1
        clear hrg1
        cases hah : ahd e.2 c.2
        · go_wp2_with (first
            | (go_at_call 38; refine (ahead_any e.2 c.2 _).mono ?_; rintro e9 w2 ⟨rfl, hg2⟩; rw [hah])
            | go_in)
          have hr3 := (HRG1.out.alloc (Obj.cells #[.int .i64 e.2.1, .int .u64 e.2.2] 76)).kept hg2 (by simp) (by simp)
          go_roundw
          case rel =>
            first | refine ⟨_, _, _, _, _, _, _, _, _, _, _, _, _, _, _, _, _, _, ?_, rfl⟩ | skip
            refine ⟨_, cnt1, hr3, only_trans (only_alloc hgw1 _) hg2, hleft1, Or.inr ⟨c, rfl, rfl, oF.kept hg2 (by simp), seen_keep h3 keyedI mkinjI h8 hseen he hah⟩⟩
          case measure => rw [hr3.left_eq, hrg.left_eq]; exact hlt
        · go_wp2_with (first
            | (go_at_call 38; refine (ahead_any e.2 c.2 _).mono ?_; rintro e9 w2 ⟨rfl, hg2⟩; rw [hah]; have oN2 := oN.kept hg2 (by simp); have oF2 := oF.kept hg2 (by simp); have q0 := oN2.cell 0 rfl; have q1 := oN2.cell 1 rfl; have p0 := oF2.free 0; have p1 := oF2.free 1; have p0' := oF2.cell 0 rfl; have p1' := oF2.cell 1 rfl)
            | go_in)
          go_region
          have g3 := only_drew (only_set (only_set (only_refl w2 (some w.heap.size)) (i := 0) (.int .i64 e.2.1)) (i := 1) (.int .u64 e.2.2))
          have hr3 := ((HRG1.out.alloc (Obj.cells #[.int .i64 e.2.1, .int .u64 e.2.2] 76)).kept hg2 (by simp) (by simp)).kept g3 (fun h => by have := Option.some.inj h; omega) (fun h => by have := Option.some.inj h; omega)
          go_roundw
          case rel =>
            first | refine ⟨_, _, _, _, _, _, _, _, _, _, _, _, _, _, _, _, _, _, ?_, rfl⟩ | skip
            refine ⟨_, cnt1, hr3, only_drew (only_setNew (only_setNew (only_trans (only_alloc hgw1 _) hg2) (Nat.le_refl _) _) (Nat.le_refl _) _), hleft1, Or.inr ⟨e, rfl, rfl, ((oF2.set 0 _).set 1 _).drew, seen_new h3 keyedI mkinjI h8 hseen he hah⟩⟩
          case measure => rw [hr3.left_eq, hrg.left_eq]; exact hlt

set_option maxHeartbeats 2000000 in
theorem tpopI_no (b : Nat) (F : List Nat) (n : Nat) (L : List (Int × Int)) (now : Int) (w : World) (h : tabI w b F n L) (hb : ∀ x, best L = some x → now < x.2) :
    Calls Try.prog 18 #[.pointer (some ⟨b, 0, none⟩), .int .i64 now] w fun e w' => e = .returned (.tuple #[mkI 0, .bool false]) ∧ turned w w' [] := by
  have hc := tnextI b F n L w h
  clear h
  cases hbest : best L with
  | none =>
    rw [hbest] at hc
    go_enter Try.func18, Try.ntmps18
    go_wp2_with fail
    refine hc.mono ?_
    rintro e w1 ⟨rfl, t1⟩
    unfold outI
    go_wp2
    go_ret2
    exact ⟨rfl, t1⟩
  | some x =>
    rw [hbest] at hc
    have hlt := hb x hbest
    go_enter Try.func18, Try.ntmps18
    go_wp2_with fail
    refine hc.mono ?_
    rintro e w1 ⟨rfl, t1⟩
    unfold outI
    go_wp2
    go_ret2
    exact ⟨rfl, t1⟩
set_option maxHeartbeats 2000000 in
theorem tpopI_yes (b : Nat) (F : List Nat) (n : Nat) (L : List (Int × Int)) (x : Int × Int) (now : Int) (w : World) (h : tabI w b F n L) (hbest : best L = some x) (hle : x.2 ≤ now) :
    Calls Try.prog 18 #[.pointer (some ⟨b, 0, none⟩), .int .i64 now] w fun e w' => e = .returned (.tuple #[mkI x.1, .bool true]) ∧ tabI w' b F n (drp x.1 L) ∧ turned w w' F := by
  have hc := tnextI b F n L w h
  rw [hbest] at hc
  have hm := best_mem hbest
  have hk := h.ok hm
  have HH := Lib.hid h
  clear h
  go_enter Try.func18, Try.ntmps18
  go_wp2_with fail
  refine hc.mono ?_
  rintro e w1 ⟨rfl, t1⟩
  unfold outI
  have h1 := Lib.hid (HH.out.past t1 (by simp))
  go_wp2_with fail
  refine (tstopI b F n L x.1 w1 h1.out hk).mono ?_
  rintro e w2 ⟨rfl, h2, t2⟩
  rw [decide_eq_true (show ∃ y, y ∈ L ∧ y.1 = x.1 from ⟨x, hm, rfl⟩)]
  have H2 := Lib.hid h2
  clear h2
  go_wp2
  go_ret2
  exact ⟨rfl, H2.out, turned_trans (turned_more t1 (by simp)) t2⟩
theorem tpopI_nil (now : Int) (w : World) :
    Calls Try.prog 18 #[.pointer none, .int .i64 now] w fun e w' => e = .returned (.tuple #[mkI 0, .bool false]) ∧ w = w' := by
  have hc : Calls Try.prog 16 #[.pointer none] w fun e w' => e = .returned (.tuple #[mkI 0, .int .i64 0, .bool false]) ∧ w = w' := by
    go_enter Try.func16, Try.ntmps16
    go_wp2
    go_ret3
    exact ⟨rfl, rfl⟩
  go_enter Try.func18, Try.ntmps18
  go_wp2_with fail
  refine hc.mono ?_
  rintro e w1 ⟨rfl, rfl⟩
  go_wp2
  go_ret2
  exact ⟨rfl, rfl⟩
theorem tnextI_nil (w : World) : Calls Try.prog 16 #[.pointer none] w fun e w' => e = .returned (.tuple #[mkI 0, .int .i64 0, .bool false]) ∧ w = w' := by
  go_enter Try.func16, Try.ntmps16
  go_wp2
  go_ret3
  exact ⟨rfl, rfl⟩

end Go.Proofs.Ytebdnciehobfaaa

