/- The walk of ForwardCuts. No condition. -/
import Derived.Test.YtdmoknijpapedaaFwdWorks
import Derived.Test.YtdmoknijpapedaaFwdOpen
import Derived.Deep.AppendLies
import Derived.Deep.RegionLaw
namespace Go.Proofs.Ytdmoknijpapedaa
open Go.ChangeShapes Go.WideShapes Go.RowKit Go.Deep
set_option linter.unusedVariables false
set_option linter.unusedSimpArgs false

section
variable {P : Program}
/-- 'append(s, x...)' at a step of a region that draws its order, of a slice that lies anywhere, or of nil. -/
theorem step_append_lies' (w : World) {ops : Array Oper} {o : Oper} {a : Act} {K : Act → World → Prop} {Q : Exit → Act → World → Prop} {E : Prop} (hgd : o.guard = none) (s x : Operand) (t : TypeId)
    (ho : o.op = .call { callee := .builtin .append, args := #[s, x], argTypes := #[t, t] })
    (base : Nat) (e : TypeId) (i : TypeInfo) (z : Value) (size bytes : Nat) (ht : P.underlying t = some (.slice e)) (hi : P.info? e = some i) (hz : i.zero = some z)
    (hsize : i.size = size) (hby : i.bytes = bytes) (hzs : z.cells.size = size) (hsz : 0 < size)
    (v : Value) (n : Nat) (xs : List Value) (hs : a.eval s = v) (hown : w.ownsRow base e size v n xs)
    (y : Value) (m : Nat) (news : List Value) (hx : a.eval x = y) (hr : Lies w size y m news) (h1 : ∀ u ∈ news, u.oneCell' = true)
    (h63 : n + m ≤ maxLen) (hbytes : (n + m) * bytes ≤ 140737488355328) (hbase : base ≤ w.heap.size)
    (h : ∀ v' w', w'.ownsRow base e size v' (n + m) (xs ++ news) → w.grownBy w' v.ownBlock → (v'.ownBlock = v.ownBlock ∨ v'.ownBlock = some w.heap.size) → K (a.put o.dst v') w') :
    if Region.wanted o (yielded ops a.tmps) = true then Oper.wp P o a w K Q else E := by
  have hw : Region.wanted o (yielded ops a.tmps) = true := by simp [Region.wanted, hgd]
  rw [if_pos hw]
  obtain ⟨v', w', hrun, h2, h3, h4⟩ := run_append_lies' (P := P) w base t o.type e i z size bytes ht hi hz hsize hby hzs hsz v n xs hown y m news hr h1 h63 hbytes hbase
  unfold Oper.wp execOp
  simp only [ho, resolve, invoke, builtin, Sem.run_bind, Sem.run_pure, Result.andThen_ok, List.map_toArray, List.map_cons, List.map_nil, hs, hx, hrun]
  exact h v' w' h2 h3 h4
end

theorem flatSk_at {S : List (Int × Int)} (j : Nat) (h : j < S.length) : (flat cSk S)[j * 2]? = some (.int .u16 (S[j]'h).1) ∧ (flat cSk S)[j * 2 + 1]? = some (.int .u16 (S[j]'h).2) :=
  ⟨by have := flat_at cSk_len S j h 0 (by omega); simpa [cSk] using this, by have := flat_at cSk_len S j h 1 (by omega); simpa [cSk] using this⟩
/-- A row of skips one of whose numbers turns. -/
theorem row_turn {w : World} {base g cap n : Nat} {S : List (Int × Int)} (h : w.ownsRow base 41 2 (.slice (some ⟨g, 0, none⟩) n cap) n (flat cSk S)) (j : Nat) (hj : j < S.length) (v : Int) :
    (w.setCell ⟨g, j * 2 + 1, none⟩ (.int .u16 v)).ownsRow base 41 2 (.slice (some ⟨g, 0, none⟩) n cap) n (flat cSk (S.set j ((S[j]'hj).1, v))) := by
  have := (h.stored (j * 2 + 1) (.int .u16 v)).1
  rw [flat_set cSk_len S j hj 1 (by omega) _ ((S[j]'hj).1, v) rfl] at this
  exact this
/-- What came in (block B) and its copy (block b). -/
def Two (W : World) (B b : Nat) (c : Int) (S : List (Int × Int)) (v sv : Value) (w : World) : Prop :=
  obj w B 27 [.int .u32 c, v] ∧ obj w b 27 [.int .u32 c, sv] ∧ Lies w 2 v S.length (flat cSk S) ∧ Lies w 2 sv S.length (flat cSk S) ∧ turned W w []
theorem Two.none_ {W w w' : World} {B b : Nat} {c : Int} {S : List (Int × Int)} {v sv : Value} (h : Two W B b c S v sv w) (t : turned w w' []) : Two W B b c S v sv w' :=
  ⟨h.1.past t (by simp), h.2.1.past t (by simp), h.2.2.1.none_ t, h.2.2.2.1.none_ t, turned_trans h.2.2.2.2 t⟩
theorem Two.drew {W w : World} {B b : Nat} {c : Int} {S : List (Int × Int)} {v sv : Value} (h : Two W B b c S v sv w) : Two W B b c S v sv w.drew := h.none_ (turned_drew w [])
theorem twoA {W w' : World} {c : Int} {S : List (Int × Int)} {v sv : Value} (hb : obj w' W.heap.size 27 [.int .u32 c, v]) (hv : Lies w' 2 v S.length (flat cSk S)) (ho : w'.ownsRow W.heap.size 41 2 sv S.length (flat cSk S)) (t : turned W w' []) :
    Two W W.heap.size w'.heap.size c S v sv (w'.alloc (.cells #[.int .u32 c, sv] 27)) :=
  have ta := turned_alloc (turned_refl w' []) (.cells #[.int .u32 c, sv] 27)
  ⟨hb.alloc _, obj.new w' _ _, hv.none_ ta, (Lies.row ho).none_ ta, turned_trans t ta⟩
theorem twoB {W w' : World} {b : Nat} {c : Int} {S : List (Int × Int)} {v sv : Value} (hb : obj w' W.heap.size 27 [.int .u32 c, v]) (hv : Lies W 2 v S.length (flat cSk S)) (ho : w'.ownsRow W.heap.size 41 2 sv S.length (flat cSk S)) (t : turned W w' [])
    (o7 : obj w' b 27 [.int .u32 0, .slice none 0 0]) (hlt : W.heap.size < b) :
    Two W W.heap.size b c S v sv ((w'.setCell ⟨b, 0, none⟩ (.int .u32 c)).setCell ⟨b, 1, none⟩ sv) := by
  have ts : turned w' ((w'.setCell ⟨b, 0, none⟩ (.int .u32 c)).setCell ⟨b, 1, none⟩ sv) [b] := turned_set (turned_set (turned_refl w' [b]) (List.mem_singleton.2 rfl) _) (List.mem_singleton.2 rfl) _
  have tW : turned W ((w'.setCell ⟨b, 0, none⟩ (.int .u32 c)).setCell ⟨b, 1, none⟩ sv) [] := turned_setNew (turned_setNew t (by omega) _) (by omega) _
  refine ⟨hb.past ts (by simp; omega), (o7.set 0 _).set 1 _, hv.none_ tW, Lies.row (row_past ho ts fun g hg e => ?_), tW⟩
  rw [List.mem_singleton] at e
  subst e
  exact row_ne ho o7 (by decide) hg

/-- .. and a cut of it. -/
def Bun (W w1 : World) (B b : Nat) (c : Int) (S : List (Int × Int)) (v sv u : Value) (k : Nat) (w : World) : Prop :=
  Two W B b c S v sv w ∧ Lies w 2 u (S.take k).length (flat cSk (S.take k)) ∧ turned w1 w []
theorem Bun.none_ {W w1 w w' : World} {B b : Nat} {c : Int} {S : List (Int × Int)} {v sv u : Value} {k : Nat} (h : Bun W w1 B b c S v sv u k w) (t : turned w w' []) : Bun W w1 B b c S v sv u k w' :=
  ⟨h.1.none_ t, h.2.1.none_ t, turned_trans h.2.2 t⟩
theorem Bun.grown {W w1 w w' : World} {B b : Nat} {c : Int} {S : List (Int × Int)} {v sv u : Value} {k : Nat} (h : Bun W w1 B b c S v sv u k w) (t : w.grownBy w' none) : Bun W w1 B b c S v sv u k w' := h.none_ (turned_none t)
theorem Bun.drew {W w1 w : World} {B b : Nat} {c : Int} {S : List (Int × Int)} {v sv u : Value} {k : Nat} (h : Bun W w1 B b c S v sv u k w) : Bun W w1 B b c S v sv u k w.drew := h.none_ (turned_drew w [])
theorem row_empty {w : World} {b base size : Nat} {e : TypeId} (h : obj w b e []) (hb : base ≤ b) : w.ownsRow base e size (.slice (some ⟨b, 0, none⟩) 0 0) 0 [] :=
  ⟨by simp, .inr ⟨b, 0, #[], rfl, hb, h, Nat.le_refl _, by decide, by simp, by simp⟩⟩
theorem cell_al2 {w : World} {a : Addr} {v : Value} (h : w.cell? a = some v) (o : Obj) : (w.alloc o).cell? a = some v :=
  turned_cell (L := []) (turned_alloc (turned_refl w []) o) h (by simp)
set_option maxRecDepth 100000 in
set_option maxHeartbeats 16000000 in
theorem cuts_good (W : World) (c room tsn : Int) (v : Value) (S : List (Int × Int)) (hv : Lies W 2 v S.length (flat cSk S)) (hr : -9223372036854775808 ≤ room ∧ room ≤ 9223372036854775807) (hS : S.length ≤ 1000) :
    Calls Try.prog 4 #[.agg #[.int .u32 c, v], .int .i64 room, .int .u32 tsn] W fun e w' => e = .returned (.bool true) ∧ Below W.heap.size W w' := by
  obtain ⟨a, cap, rfl, hc1, hc2⟩ := hv.form
  have HV := Lib.hid hv
  obtain ⟨hr1, hr2⟩ := hr
  obtain ⟨i0, hi0, hz0, hz1, hz2⟩ := info_parts infoSk
  obtain ⟨w0, hw0⟩ : ∃ w0, w0 = W.alloc (.cells #[.int .u32 c, .slice a S.length cap] 27) := ⟨_, rfl⟩
  have o0 : obj w0 W.heap.size 27 [.int .u32 c, .slice a S.length cap] := by rw [hw0]; exact obj.new W _ _
  have t0 : turned W w0 [] := by rw [hw0]; exact turned_alloc (turned_refl W []) _
  have hs0 : w0.heap.size = W.heap.size + 1 := by rw [hw0]; simp
  have b0 := o0.cell 0 rfl
  have b1 := o0.cell 1 rfl
  have O0 := Lib.hid o0
  have T0 := Lib.hid t0
  have HS0 := Lib.hid hs0
  clear hv o0 t0 hs0
  go_enter Try.func4, Try.ntmps4
  go_upto_region 3 with (fail)
  rw [← hw0]
  clear hw0
  go_cut [7] (fun p wc => ∃ b sv, p = .pointer (some ⟨b, 0, none⟩) ∧ Two W W.heap.size b c S (.slice a S.length cap) sv wc)
  case first =>
    have M1 := Lib.hid (show 0 + S.length ≤ maxLen by unfold maxLen; omega)
    have M2 := Lib.hid (show (0 + S.length) * 4 ≤ 140737488355328 by omega)
    have M3 := Lib.hid (show W.heap.size ≤ w0.heap.size by have := HS0.out; omega)
    have M4 := Lib.hid (show W.heap.size ≤ w0.heap.size + 1 by have := HS0.out; omega)
    have N1 := Lib.hid (show some W.heap.size ≠ some w0.heap.size by have := HS0.out; intro e; injection e; omega)
    have N2 := Lib.hid (show some W.heap.size ≠ some (w0.heap.size + 1) by have := HS0.out; intro e; injection e; omega)
    have N3 := Lib.hid (show some (w0.heap.size + 1) ≠ some w0.heap.size by intro e; injection e; omega)
    have N4 := Lib.hid (show some w0.heap.size ≠ some (w0.heap.size + 1) by intro e; injection e; omega)
    have N5 := Lib.hid (show W.heap.size ∉ [w0.heap.size + 1] by have := HS0.out; simp; omega)
    have N6 := Lib.hid (show W.heap.size ∉ [w0.heap.size] by have := HS0.out; simp; omega)
    have EA := Lib.hid (obj.new w0 41 [])
    have EB := Lib.hid (EA.out.alloc (.cells #[.int .u32 0, .slice none 0 0] 27))
    have EC := Lib.hid (show obj ((w0.alloc (.cells #[.int .u32 0, .slice none 0 0] 27)).alloc (.cells #[] 41)) (w0.heap.size + 1) 41 [] by have := obj.new (w0.alloc (.cells #[.int .u32 0, .slice none 0 0] 27)) 41 []; simpa using this)
    have FB := Lib.hid (show obj ((w0.alloc (.cells #[] 41)).alloc (.cells #[.int .u32 0, .slice none 0 0] 27)) (w0.heap.size + 1) 27 [.int .u32 0, .slice none 0 0] by have := obj.new (w0.alloc (.cells #[] 41)) 27 [.int .u32 0, .slice none 0 0]; simpa using this)
    have FC := Lib.hid ((obj.new w0 27 [.int .u32 0, .slice none 0 0]).alloc (.cells #[] 41))
    have BA := Lib.hid (O0.out.alloc (.cells #[] 41))
    have BB := Lib.hid (BA.out.alloc (.cells #[.int .u32 0, .slice none 0 0] 27))
    have BC := Lib.hid ((O0.out.alloc (.cells #[.int .u32 0, .slice none 0 0] 27)).alloc (.cells #[] 41))
    have TA := Lib.hid (turned_alloc T0.out (.cells #[] 41))
    have TB := Lib.hid (turned_alloc TA.out (.cells #[.int .u32 0, .slice none 0 0] 27))
    have TC := Lib.hid (turned_alloc (turned_alloc T0.out (.cells #[.int .u32 0, .slice none 0 0] 27)) (.cells #[] 41))
    have b0E := cell_al2 b0 (.cells #[] 41)
    have b1E := cell_al2 b1 (.cells #[] 41)
    have b0F := cell_al2 b0 (.cells #[.int .u32 0, .slice none 0 0] 27)
    have b1F := cell_al2 b1 (.cells #[.int .u32 0, .slice none 0 0] 27)
    have b0EF := cell_al2 b0E (.cells #[.int .u32 0, .slice none 0 0] 27)
    have b1EF := cell_al2 b1E (.cells #[.int .u32 0, .slice none 0 0] 27)
    have b0FE := cell_al2 b0F (.cells #[] 41)
    have b1FE := cell_al2 b1F (.cells #[] 41)
    go_region_held3 (fun w' => w'.cell? ⟨W.heap.size, 0, none⟩ = some (.int .u32 c) ∧ w'.cell? ⟨W.heap.size, 1, none⟩ = some (.slice a S.length cap)) (first | (simp [go_sem, *]; done) | assumption) (first
      | (refine step_append_lies' (P := Try.prog) _ rfl _ _ 25 rfl W.heap.size 41 i0 (.agg #[.int .u16 0, .int .u16 0]) 2 4 Try.underlying25 hi0 hz0 hz1 hz2 rfl (by decide) _ 0 [] rfl (row_empty EA.out M3.out) _ S.length (flat cSk S) rfl (HV.out.none_ TA.out) (flat_one cSk_one S) M1.out M2.out TA.out.2.2.2.1 ?_; intro v' w' ho hg hl; rw [Nat.zero_add, List.nil_append] at ho; obtain ⟨a', c', rfl, _⟩ := row_form ho; have ob := BA.out.drew.kept hg N1.out; have k0 := ob.cell 0 rfl; have k1 := ob.cell 1 rfl; have k0G := cell_al2 k0 (.cells #[.int .u32 c, .slice a' S.length c'] 27); have k1G := cell_al2 k1 (.cells #[.int .u32 c, .slice a' S.length c'] 27); have k0F := cell_al2 k0 (.cells #[.int .u32 0, .slice none 0 0] 27); have k1F := cell_al2 k1 (.cells #[.int .u32 0, .slice none 0 0] 27); have KB := Lib.hid ob; have KH := Lib.hid ho; have KT := Lib.hid (turned_new (turned_drew' TA.out) hg (fun k e => by have e' : some w0.heap.size = some k := e; cases e'; have := HS0.out; omega)); clear ho hg hl ob)
      | (refine step_append_lies' (P := Try.prog) _ rfl _ _ 25 rfl W.heap.size 41 i0 (.agg #[.int .u16 0, .int .u16 0]) 2 4 Try.underlying25 hi0 hz0 hz1 hz2 rfl (by decide) _ 0 [] rfl (row_empty EB.out M3.out) _ S.length (flat cSk S) rfl (HV.out.none_ TB.out) (flat_one cSk_one S) M1.out M2.out TB.out.2.2.2.1 ?_; intro v' w' ho hg hl; rw [Nat.zero_add, List.nil_append] at ho; obtain ⟨a', c', rfl, _⟩ := row_form ho; have ob := BB.out.drew.kept hg N1.out; have k0 := ob.cell 0 rfl; have k1 := ob.cell 1 rfl; have os := ob.past (turned_set (turned_set (turned_refl w' [w0.heap.size + 1]) (List.mem_singleton.2 rfl) (i := 0) (.int .u32 c)) (List.mem_singleton.2 rfl) (i := 1) (.slice a' S.length c')) N5.out; have k6 := os.cell 0 rfl; have k7 := os.cell 1 rfl; clear os; have of7 := FB.out.drew.kept hg N3.out; have k2 := of7.cell 0 rfl; have k3 := of7.cell 1 rfl; have k4 := of7.free 0; have k5 := of7.free 1; have KB := Lib.hid ob; have K7 := Lib.hid of7; have KH := Lib.hid ho; have KT := Lib.hid (turned_new (turned_drew' TB.out) hg (fun k e => by have e' : some w0.heap.size = some k := e; cases e'; have := HS0.out; omega)); clear ho hg hl ob of7)
      | (refine step_append_lies' (P := Try.prog) _ rfl _ _ 25 rfl W.heap.size 41 i0 (.agg #[.int .u16 0, .int .u16 0]) 2 4 Try.underlying25 hi0 hz0 hz1 hz2 rfl (by decide) _ 0 [] rfl (row_empty EC.out M4.out) _ S.length (flat cSk S) rfl (HV.out.none_ TC.out) (flat_one cSk_one S) M1.out M2.out TC.out.2.2.2.1 ?_; intro v' w' ho hg hl; rw [Nat.zero_add, List.nil_append] at ho; obtain ⟨a', c', rfl, _⟩ := row_form ho; have ob := BC.out.drew.kept hg N2.out; have k0 := ob.cell 0 rfl; have k1 := ob.cell 1 rfl; have os := ob.past (turned_set (turned_set (turned_refl w' [w0.heap.size]) (List.mem_singleton.2 rfl) (i := 0) (.int .u32 c)) (List.mem_singleton.2 rfl) (i := 1) (.slice a' S.length c')) N6.out; have k6 := os.cell 0 rfl; have k7 := os.cell 1 rfl; clear os; have of7 := FC.out.drew.kept hg N4.out; have k2 := of7.cell 0 rfl; have k3 := of7.cell 1 rfl; have k4 := of7.free 0; have k5 := of7.free 1; have KB := Lib.hid ob; have K7 := Lib.hid of7; have KH := Lib.hid ho; have KT := Lib.hid (turned_new (turned_drew' TC.out) hg (fun k e => by have e' : some (w0.heap.size + 1) = some k := e; cases e'; have := HS0.out; omega)); clear ho hg hl ob of7))
    all_goals go_wp2
    all_goals go_meet
    all_goals first
      | exact ⟨_, _, rfl, twoA KB.out (HV.out.none_ KT.out) KH.out KT.out⟩
      | exact ⟨_, _, rfl, twoB KB.out HV.out KH.out KT.out K7.out (by have := HS0.out; omega)⟩
  case rest =>
    obtain ⟨b, sv, rfl, htwo⟩ := hcut
    obtain ⟨wq, rfl⟩ : ∃ wq : World, wq = wc := ⟨_, rfl⟩
    obtain ⟨sa, sc, rfl, hs1, hs2⟩ := htwo.2.2.2.1.form
    have HT := Lib.hid htwo
    have hkle := cutN_le S.length room
    have hk1 : cutN S.length room = 0 ∨ 4 + 4 * (cutN S.length room : Int) ≤ room := by unfold cutN; omega
    have hk2 : cutN S.length room = S.length ∨ room < 0 ∨ room < 8 + 4 * (cutN S.length room : Int) := by unfold cutN; omega
    obtain ⟨k, hk⟩ : ∃ k, cutN S.length room = k := ⟨_, rfl⟩
    have HCUT := Lib.hid hk
    rw [hk] at hkle hk1 hk2
    have HK1 := Lib.hid hk1
    have HK2 := Lib.hid hk2
    clear htwo hk hk1 hk2 b0 b1 O0 T0 HS0
    have q0 := HT.out.2.1.cell 0 rfl
    have q1 := HT.out.2.1.cell 1 rfl
    go_wp2_with fail
    refine (cut_any c room _ S wq HT.out.2.2.2.1 (by omega) ⟨hr1, hr2⟩).mono ?_
    rintro e w1 ⟨v1, rfl, ho, t1⟩
    rw [HCUT.out] at ho
    obtain ⟨ka, kc, rfl, hk1, hk2, hka⟩ := row_form ho
    have hkc : kc ≤ 9223372036854775807 := hk2
    have HO := Lib.hid ho
    have HKA := Lib.hid hka
    have H1 := Lib.hid (HT.out.none_ t1)
    have L1 := Lib.hid (show Lies w1 2 (.slice ka k kc) (S.take k).length (flat cSk (S.take k)) by rw [List.length_take, Nat.min_eq_left hkle]; exact Lies.row ho)
    have hwc := t1.2.2.2.1
    have T1 := Lib.hid t1
    clear ho t1 hka q0 q1 hk2
    have p0 := H1.out.1.cell 0 rfl
    have p1 := H1.out.1.cell 1 rfl
    have p2 := H1.out.2.1.cell 0 rfl
    have p3 := H1.out.2.1.cell 1 rfl
    have g1 : ((4 + 4 * (S.length : Int)) != (4 + 4 * (S.length : Int))) = false := by simp
    have g2 : (ovr tsn c != ovr tsn c) = false := by simp
    have HB1 := Lib.hid (show Bun W w1 W.heap.size b c S (.slice a S.length cap) (.slice sa S.length sc) (.slice ka k kc) k w1 from ⟨H1.out, L1.out, turned_refl _ _⟩)
    go_wp2
    go_region_held3 (fun w' => w'.cell? ⟨W.heap.size, 0, none⟩ = some (.int .u32 c) ∧ w'.cell? ⟨W.heap.size, 1, none⟩ = some (.slice a S.length cap) ∧ w'.cell? ⟨b, 0, none⟩ = some (.int .u32 c) ∧ w'.cell? ⟨b, 1, none⟩ = some (.slice sa S.length sc)) (first | (simp [go_sem, *]; done) | assumption) (first
      | (go_at_call 13; refine (size_any c _ S.length _ _ (by omega)).mono ?_; rintro e w2 ⟨rfl, g⟩; have H2 := Lib.hid (HB1.out.drew.grown g); have p0 := H2.out.1.1.cell 0 rfl; have p1 := H2.out.1.1.cell 1 rfl; have p2 := H2.out.1.2.1.cell 0 rfl; have p3 := H2.out.1.2.1.cell 1 rfl; clear g)
      | (go_at_call 14; refine (rsize_any c _ S.length _ _ (by omega)).mono ?_; rintro e w3 ⟨rfl, g⟩; have H3 := Lib.hid (H2.out.grown g); have p0 := H3.out.1.1.cell 0 rfl; have p1 := H3.out.1.1.cell 1 rfl; have p2 := H3.out.1.2.1.cell 0 rfl; have p3 := H3.out.1.2.1.cell 1 rfl; clear g)
      | (go_at_call 16; refine (rcut_any c room _ S _ H3.out.1.2.2.1 (by omega) ⟨hr1, hr2⟩).mono ?_; rintro e w4 ⟨v4, rfl, ho4, g⟩; rw [HCUT.out] at ho4; have L4 := Lib.hid (show Lies _ 2 v4 (S.take k).length (flat cSk (S.take k)) by rw [List.length_take, Nat.min_eq_left hkle]; exact Lies.row ho4); clear ho4; have H4 := Lib.hid (H3.out.none_ g); have p0 := H4.out.1.1.cell 0 rfl; have p1 := H4.out.1.1.cell 1 rfl; have p2 := H4.out.1.2.1.cell 0 rfl; have p3 := H4.out.1.2.1.cell 1 rfl; clear g)
      | (go_at_call 15; refine (same_skips _ _ (S.take k) (S.take k) _ H4.out.2.1 L4.out).mono ?_; rintro e w5 ⟨rfl, m, rfl⟩; have H5 := Lib.hid (H4.out.none_ (turned_drewN _ m _)); have p0 := H5.out.1.1.cell 0 rfl; have p1 := H5.out.1.1.cell 1 rfl; have p2 := H5.out.1.2.1.cell 0 rfl; have p3 := H5.out.1.2.1.cell 1 rfl)
      | (go_at_call 17; refine (over_any c tsn _ _).mono ?_; rintro e w6 ⟨rfl, g⟩; have H6 := Lib.hid (H5.out.grown g); have p0 := H6.out.1.1.cell 0 rfl; have p1 := H6.out.1.1.cell 1 rfl; have p2 := H6.out.1.2.1.cell 0 rfl; have p3 := H6.out.1.2.1.cell 1 rfl; clear g)
      | (go_at_call 18; refine (rover_any c tsn _ _).mono ?_; rintro e w7 ⟨rfl, g⟩; have H7 := Lib.hid (H6.out.grown g); have p0 := H7.out.1.1.cell 0 rfl; have p1 := H7.out.1.1.cell 1 rfl; have p2 := H7.out.1.2.1.cell 0 rfl; have p3 := H7.out.1.2.1.cell 1 rfl; clear g)
      | (go_at_call 11; refine (same_forward c c _ _ S S _ H7.out.1.2.2.2.1 H7.out.1.2.2.1).mono ?_; rintro e w8 ⟨rfl, g⟩; have H8 := Lib.hid (H7.out.grown g); have p0 := H8.out.1.1.cell 0 rfl; have p1 := H8.out.1.1.cell 1 rfl; have p2 := H8.out.1.2.1.cell 0 rfl; have p3 := H8.out.1.2.1.cell 1 rfl; clear g))
    clear p0 p1 p2 p3 g1 g2 H1 H2 H3 H4 H5 H6 H7 HB1
    have p1 := H8.out.1.1.cell 1 rfl
    go_upto_region 7 with (fail)
    go_cut [97] (fun t wx => t = .bool false ∧ Bun W w1 W.heap.size b c S (.slice a S.length cap) (.slice sa S.length sc) (.slice ka k kc) k wx)
    case first =>
      have HCS := Lib.hid (same_skips (.slice ka k kc) (.slice a k cap) (S.take k) (S.take k) w8 H8.out.2.1 (by
        have := H8.out.1.2.2.1.cut hkle
        rw [List.length_take, Nat.min_eq_left hkle, flat_take cSk_len]
        exact this))
      have fin : ∀ m, Bun W w1 W.heap.size b c S (.slice a S.length cap) (.slice sa S.length sc) (.slice ka k kc) k (w8.drewN m) := fun m => H8.out.none_ (turned_drewN _ m _)
      have FIN := Lib.hid fin
      clear fin H8
      by_cases hk0 : 0 < k
      · have e2 : decide (room < 4 + 4 * (k : Int)) = false := decide_eq_false (by have := HK1.out; omega)
        have e1 : decide (0 < k) = true := decide_eq_true hk0
        have f2 : ¬ room < 4 + 4 * (k : Int) := by have := HK1.out; omega
        by_cases hkS : k < S.length
        · have e3 : decide (k < S.length) = true := decide_eq_true hkS
          by_cases hr0 : 0 ≤ room
          · have e4 : decide (0 ≤ room) = true := decide_eq_true hr0
            have e6 : decide (8 + 4 * (k : Int) ≤ room) = false := decide_eq_false (by have := HK2.out; omega)
            by_cases hr40 : room < 1099511627776
            · have e5 : decide (room < 1099511627776) = true := decide_eq_true hr40
              go_wp2_with (go_at_call 15; refine HCS.out.mono ?_; rintro e w9 ⟨rfl, m, rfl⟩)
              go_meet
              exact ⟨rfl, FIN.out m⟩
            · have e5 : decide (room < 1099511627776) = false := decide_eq_false hr40
              go_wp2_with (go_at_call 15; refine HCS.out.mono ?_; rintro e w9 ⟨rfl, m, rfl⟩)
              go_meet
              exact ⟨rfl, FIN.out m⟩
          · exfalso; have := HK1.out; omega
        · have e3 : decide (k < S.length) = false := decide_eq_false hkS
          go_wp2_with (go_at_call 15; refine HCS.out.mono ?_; rintro e w9 ⟨rfl, m, rfl⟩)
          go_meet
          exact ⟨rfl, FIN.out m⟩
      · have e1 : decide (0 < k) = false := decide_eq_false hk0
        by_cases hkS : k < S.length
        · have e3 : decide (k < S.length) = true := decide_eq_true hkS
          by_cases hr0 : 0 ≤ room
          · have e4 : decide (0 ≤ room) = true := decide_eq_true hr0
            have e6 : decide (8 + 4 * (k : Int) ≤ room) = false := decide_eq_false (by have := HK2.out; omega)
            by_cases hr40 : room < 1099511627776
            · have e5 : decide (room < 1099511627776) = true := decide_eq_true hr40
              go_wp2_with (go_at_call 15; refine HCS.out.mono ?_; rintro e w9 ⟨rfl, m, rfl⟩)
              go_meet
              exact ⟨rfl, FIN.out m⟩
            · have e5 : decide (room < 1099511627776) = false := decide_eq_false hr40
              go_wp2_with (go_at_call 15; refine HCS.out.mono ?_; rintro e w9 ⟨rfl, m, rfl⟩)
              go_meet
              exact ⟨rfl, FIN.out m⟩
          · have e4 : decide (0 ≤ room) = false := decide_eq_false hr0
            go_wp2_with (go_at_call 15; refine HCS.out.mono ?_; rintro e w9 ⟨rfl, m, rfl⟩)
            go_meet
            exact ⟨rfl, FIN.out m⟩
        · have e3 : decide (k < S.length) = false := decide_eq_false hkS
          go_wp2_with (go_at_call 15; refine HCS.out.mono ?_; rintro e w9 ⟨rfl, m, rfl⟩)
          go_meet
          exact ⟨rfl, FIN.out m⟩
    case rest =>
      obtain ⟨rfl, hbun⟩ := hcut
      have HX := Lib.hid hbun
      have hlen : (S.take k).length = k := by rw [List.length_take, Nat.min_eq_left hkle]
      have HOX := Lib.hid (row_past HO.out hbun.2.2 (by simp))
      clear hbun p1 H8
      go_wp2
      go_loopw [9] (fun i wr => ∃ (j : Nat) (M : List (Int × Int)), j ≤ k ∧ M.length = k ∧ i = .int .i64 (j : Int) ∧ wr.ownsRow wq.heap.size 41 2 (.slice ka k kc) k (flat cSk M) ∧ Two W W.heap.size b c S (.slice a S.length cap) (.slice sa S.length sc) wr ∧ turned wq wr []) (fun i _ => k - (intOf i).toNat)
      case atStart => exact ⟨0, S.take k, Nat.zero_le _, hlen, rfl, HOX.out, HX.out.1, turned_trans T1.out HX.out.2.2⟩
      case round =>
        clear HX HOX
        obtain ⟨j, M, hj, hM, rfl, ho, h2, ht⟩ := hrel
        have HOW := Lib.hid ho
        have H2 := Lib.hid h2
        have HT2 := Lib.hid ht
        clear ho h2 ht
        by_cases hlt : j < k
        · obtain ⟨g, rfl⟩ := HKA.out (by omega)
          have hjM : j < M.length := by omega
          have e1' := HOW.out.cellAt (j * 2 + 1) (by omega)
          rw [(flatSk_at j hjM).2] at e1'
          have ef := HOW.out.frozenAt (j * 2 + 1)
          obtain ⟨y, hy⟩ : ∃ y, (M[j]'hjM).2 = y := ⟨_, rfl⟩
          rw [hy] at e1'
          have hHM := Lib.hid hM
          clear hy hM
          go_wp2
          go_roundw
          case rel =>
            have hgb := (HOW.out.lt g rfl).1
            have tg : turned wq (wr.setCell ⟨g, j * 2 + 1, none⟩ (.int .u16 (IntKind.u16.wrap (y + 1)))) [] := turned_setNew HT2.out hgb _
            have hrow := row_turn HOW.out j hjM (IntKind.u16.wrap (y + 1))
            exact ⟨j + 1, _, by omega, by rw [List.length_set]; exact hHM.out, by go_num, hrow, HT.out.none_ tg, tg⟩
          case measure => simp only [intOf]; omega
        · have p0 := H2.out.1.cell 0 rfl
          have p1 := H2.out.1.cell 1 rfl
          have p2 := H2.out.2.1.cell 0 rfl
          have p3 := H2.out.2.1.cell 1 rfl
          go_wp2_with fail
          refine (same_forward c c _ _ S S _ H2.out.2.2.2.1 H2.out.2.2.1).mono ?_
          rintro e w9 ⟨rfl, g9⟩
          rw [show (decide (c = c) && decide (S = S)) = true by simp]
          have TE := Lib.hid (turned_trans H2.out.2.2.2.2 (turned_none (L := []) g9))
          clear g9 p0 p1 p2 p3
          go_wp2_with (go_at_call 8; refine (works_any _).mono ?_; rintro e w9 ⟨rfl, g9⟩)
          go_ret
          exact ⟨rfl, turned_below (turned_trans TE.out g9)⟩

set_option maxHeartbeats 1000000 in
theorem forwardCuts.walk (W : World) (v : Value) (x : Int × List (Int × Int)) (h : IsFwd W v x) (room : Int) (hr : (Lit.int .i64 room).wf = true) (tsn : Int) (ht : (Lit.int .u32 tsn).wf = true) :
    Calls Try.prog 4 #[v, .int .i64 room, .int .u32 tsn] W fun e w' => e = .returned (.bool true) ∧ Below W.heap.size W w' := by
  obtain ⟨c, S⟩ := x
  obtain ⟨s, rfl, hl, _, _, _⟩ := h
  by_cases hS : S.length ≤ 1000
  · exact cuts_good W c room tsn s S hl (wf_i64_range hr) hS
  · obtain ⟨a, cap, rfl, hc1, hc2⟩ := hl.form
    clear hl
    simp only at hc1 hc2 hS ⊢
    have h2 : 1000 < S.length := by omega
    go_enter Try.func4, Try.ntmps4
    go_wp2_with (go_at_call 8; refine (works_any _).mono ?_; rintro e w9 ⟨rfl, g9⟩)
    go_ret
    exact ⟨rfl, turned_below (turned_trans (turned_alloc (turned_refl W []) _) g9)⟩
end Go.Proofs.Ytdmoknijpapedaa
