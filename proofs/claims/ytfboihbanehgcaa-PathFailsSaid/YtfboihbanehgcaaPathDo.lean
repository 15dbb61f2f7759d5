/- The path's writing methods and the reference's. Conditions as in the readers'. -/
import Derived.Test.YtfboihbanehgcaaPathFns
namespace Go.Proofs.Ytfboihbanehgcaa
open Go.RowKit
set_option linter.unusedVariables false
set_option linter.unusedSimpArgs false

def PS.answered (x : PS) : PS := ⟨0, x.may, x.next, x.beat, false, x.r, x.s⟩
def PS.withR (x : PS) (r : RS) : PS := ⟨x.bad, x.may, x.next, x.beat, x.opn, r, x.s⟩
def PS.withS (x : PS) (s : WS) : PS := ⟨x.bad, x.may, x.next, x.beat, x.opn, x.r, s⟩
def PS.withBad (x : PS) (b : Int) : PS := ⟨b, x.may, x.next, x.beat, x.opn, x.r, x.s⟩
def PS.withOpen (x : PS) (b : Bool) : PS := ⟨x.bad, x.may, x.next, x.beat, b, x.r, x.s⟩
def PS.withNext (x : PS) (n : Int) : PS := ⟨x.bad, x.may, n, x.beat, x.opn, x.r, x.s⟩
def PS.sample (x : PS) (t : Int) : PS := if t < 0 then x else x.withR (x.r.sample t)
def PS.fails (x : PS) : PS := ⟨min (x.bad + 1) (x.may + 1), x.may, x.next, x.beat, x.opn, x.r.back, x.s⟩
def PS.timeout (x : PS) : PS := (x.withS x.s.timeout).fails
def PS.timeoutB (x : PS) : Bool := x.act && !x.timeout.act
def PS.failed (x : PS) : PS := if x.opn = true then x.fails else x
def PS.beat1 (x : PS) (now : Int) : PS := (x.failed.withOpen true).withNext (min now 2305843009213693952 + x.failed.r.v + x.failed.beat)
def PS.beatB (x : PS) (now : Int) : Bool := decide (x.next ≤ now)
def PS.beat' (x : PS) (now : Int) : PS := if x.next ≤ now then x.beat1 now else x
def PS.beatenB (x : PS) (s n : Int) : Bool := x.opn && (decide (0 ≤ s) && decide (s ≤ n))
def PS.beaten (x : PS) (s n : Int) : PS := if x.beatenB s n = true then x.answered.sample (n - s) else x
/-- Fields that may be: q bounds the window's part. -/
def PS.ok (x : PS) (q : Int) : Prop := 0 ≤ x.bad ∧ x.bad ≤ x.may + 1 ∧ 0 ≤ x.may ∧ x.may ≤ 20 ∧ 0 ≤ x.next ∧ x.next ≤ 2305843009215791104 ∧ 1 ≤ x.beat ∧ x.beat ≤ 1048576 ∧ x.r.ok ∧ x.s.ok q
theorem rv_bd {r : RS} (h : r.ok) : 1 ≤ r.v ∧ r.v ≤ 1048576 := by unfold RS.ok at h; omega
theorem pok_answered {x : PS} {q : Int} (h : x.ok q) : x.answered.ok q := by
  obtain ⟨h1, h2, h3, h4, h5, h6, h7, h8, h9, h10⟩ := h
  exact ⟨Int.le_refl 0, by show (0 : Int) ≤ x.may + 1; omega, h3, h4, h5, h6, h7, h8, h9, h10⟩
theorem pok_withR {x : PS} {q : Int} {r : RS} (h : x.ok q) (hr : r.ok) : (x.withR r).ok q := by
  obtain ⟨h1, h2, h3, h4, h5, h6, h7, h8, h9, h10⟩ := h
  exact ⟨h1, h2, h3, h4, h5, h6, h7, h8, hr, h10⟩
theorem pok_withS {x : PS} {q p : Int} {s : WS} (h : x.ok q) (hs : s.ok p) : (x.withS s).ok p := by
  obtain ⟨h1, h2, h3, h4, h5, h6, h7, h8, h9, h10⟩ := h
  exact ⟨h1, h2, h3, h4, h5, h6, h7, h8, h9, hs⟩
theorem pok_sample {x : PS} {q t : Int} (h : x.ok q) : (x.sample t).ok q := by
  unfold PS.sample
  split
  · exact h
  · exact pok_withR h (ok_sample h.2.2.2.2.2.2.2.2.1 (by omega))
theorem pok_fails {x : PS} {q : Int} (h : x.ok q) : x.fails.ok q := by
  obtain ⟨h1, h2, h3, h4, h5, h6, h7, h8, h9, h10⟩ := h
  refine ⟨?_, ?_, h3, h4, h5, h6, h7, h8, ok_back h9, h10⟩
  · show 0 ≤ min (x.bad + 1) (x.may + 1); omega
  · show min (x.bad + 1) (x.may + 1) ≤ x.may + 1; omega
theorem pok_timeout {x : PS} {q : Int} (h : x.ok q) (hq : 0 ≤ q) : x.timeout.ok q := pok_fails (pok_withS h (wok_timeout h.2.2.2.2.2.2.2.2.2 hq))
theorem pok_failed {x : PS} {q : Int} (h : x.ok q) : x.failed.ok q := by
  unfold PS.failed
  split
  · exact pok_fails h
  · exact h
theorem pok_beat {x : PS} {q now : Int} (h : x.ok q) (hn : 0 ≤ now) : (x.beat1 now).ok q := by
  have hf := pok_failed h
  unfold PS.beat1
  generalize x.failed = y at hf
  obtain ⟨h1, h2, h3, h4, h5, h6, h7, h8, h9, h10⟩ := hf
  have hv := rv_bd h9
  refine ⟨h1, h2, h3, h4, ?_, ?_, h7, h8, h9, h10⟩
  · show 0 ≤ min now 2305843009213693952 + y.r.v + y.beat; omega
  · show min now 2305843009213693952 + y.r.v + y.beat ≤ 2305843009215791104; omega
theorem pok_beat' {x : PS} {q now : Int} (h : x.ok q) : (x.beat' now).ok q := by
  unfold PS.beat'
  split
  · exact pok_beat h (by have := h.2.2.2.2.1; omega)
  · exact h
theorem pok_beaten {x : PS} {q s n : Int} (h : x.ok q) : (x.beaten s n).ok q := by
  unfold PS.beaten
  split
  · exact pok_sample (pok_answered h)
  · exact h
theorem pok_more {x : PS} {p q : Int} (h : x.ok p) (hq : p ≤ q) : x.ok q := by
  obtain ⟨h1, h2, h3, h4, h5, h6, h7, h8, h9, h10⟩ := h
  exact ⟨h1, h2, h3, h4, h5, h6, h7, h8, h9, wok_more h10 hq⟩

/-! A cell of the path's own block, its estimator, its window turn. -/
theorem isPath.setS {w : World} {p : PP} {x : PS} (h : isPath w p x) (i : Nat) (v : Value) (y : PS) (hy : (x.cells p).set i v = y.cells p) (hr : y.r = x.r) (hs : y.s = x.s) : isPath (w.setCell ⟨p.s, i, none⟩ v) p y := by
  have e := h.sep
  refine ⟨h.1.setOther ?_ _, obj_val (h.2.1.set i v) hy, by rw [hr]; exact h.2.2.1.setOther (Ne.symm e.2.1) _, by rw [hs]; exact h.2.2.2.setOther (Ne.symm e.2.2.1) _⟩
  have := e.1; simp [PP.L] at this; exact this.1
theorem isRef.setS {w : World} {p : PP} {x : PS} (h : isRef w p x) (i : Nat) (v : Value) (y : PS) (hy : (x.cells p).set i v = y.cells p) (hr : y.r = x.r) (hs : y.s = x.s) : isRef (w.setCell ⟨p.s, i, none⟩ v) p y := by
  have e := h.sep
  exact ⟨obj_val (h.1.set i v) hy, by rw [hr]; exact h.2.1.setOther (Ne.symm e.1) _, by rw [hs]; exact h.2.2.setOther (Ne.symm e.2.1) _⟩
theorem isPath.setR {w w' : World} {p : PP} {x : PS} (h : isPath w p x) {r : RS} (o : obj w' p.r 79 r.cells) (g : w.grownBy w' (some p.r)) : isPath w' p (x.withR r) := by
  have e := h.sep
  have e1 := e.1; simp [PP.L] at e1
  exact ⟨h.1.kept g (by simp; exact e1.2.1), h.2.1.kept g (by simp; exact e.2.1), o, h.2.2.2.kept g (by simp; exact Ne.symm e.2.2.2)⟩
theorem isPath.setW {w w' : World} {p : PP} {x : PS} (h : isPath w p x) {s : WS} (o : obj w' p.w 81 s.cells) (g : w.grownBy w' (some p.w)) : isPath w' p (x.withS s) := by
  have e := h.sep
  have e1 := e.1; simp [PP.L] at e1
  exact ⟨h.1.kept g (by simp; exact e1.2.2), h.2.1.kept g (by simp; exact e.2.2.1), h.2.2.1.kept g (by simp; exact e.2.2.2), o⟩
theorem isRef.setR {w w' : World} {p : PP} {x : PS} (h : isRef w p x) {r : RS} (o : obj w' p.r 83 r.cells) (g : w.grownBy w' (some p.r)) : isRef w' p (x.withR r) := by
  have e := h.sep
  exact ⟨h.1.kept g (by simp; exact e.1), o, h.2.2.kept g (by simp; exact Ne.symm e.2.2)⟩
theorem isRef.setW {w w' : World} {p : PP} {x : PS} (h : isRef w p x) {s : WS} (o : obj w' p.w 85 s.cells) (g : w.grownBy w' (some p.w)) : isRef w' p (x.withS s) := by
  have e := h.sep
  exact ⟨h.1.kept g (by simp; exact e.2.1), h.2.1.kept g (by simp; exact e.2.2), o⟩
theorem isPath.drewN {w : World} {p : PP} {x : PS} (h : isPath w p x) (n : Nat) : isPath (w.drewN n) p x := h
theorem isRef.drewN {w : World} {p : PP} {x : PS} (h : isRef w p x) (n : Nat) : isRef (w.drewN n) p x := h
theorem isPath.drew {w : World} {p : PP} {x : PS} (h : isPath w p x) : isPath w.drew p x := h
theorem isRef.drew {w : World} {p : PP} {x : PS} (h : isRef w p x) : isRef w.drew p x := h
theorem inS (p : PP) : p.s ∈ p.L := by simp [PP.L]
theorem inR (p : PP) : p.r ∈ p.L := by simp [PP.L]
theorem inW (p : PP) : p.w ∈ p.L := by simp [PP.L]
theorem isPath.val {w : World} {p : PP} {x y : PS} (h : isPath w p x) (e : x = y) : isPath w p y := e ▸ h
theorem isRef.val {w : World} {p : PP} {x y : PS} (h : isRef w p x) (e : x = y) : isRef w p y := e ▸ h

set_option maxRecDepth 100000 in
set_option maxHeartbeats 400000 in
theorem answered_any (x : PS) (p : PP) (w : World) (h : isPath w p x) :
    Calls Try.prog 19 #[.pointer (some ⟨p.b, 0, none⟩)] w fun e w' => e = .returned (.tuple #[]) ∧ isPath w' p (x.answered) ∧ turned w w' p.L := by
  have c0 := h.1.cell 0 rfl
  have f2 := h.2.1.free 2
  have f6 := h.2.1.free 6
  have d2 := h.2.1.cell 2 rfl
  have d6 := h.2.1.cell 6 rfl
  have H := Lib.hid h
  clear h
  go_enter Try.func19, Try.ntmps19
  go_wp2_with fail
  refine (of_any _ _ _ H.out.1).mono ?_
  rintro e w' ⟨rfl, rfl⟩
  go_wp2_with fail
  go_region
  go_end0
  refine ⟨rfl, ?_, by repeat (first | exact turned_refl _ _ | apply turned_drew' | apply turned_drewN' | (refine turned_set ?_ (inS p) _))⟩
  exact (((H.out.setS 2 (.int .i64 0) (x.withBad 0) rfl rfl rfl).setS 6 (.bool false) x.answered rfl rfl rfl))

set_option maxRecDepth 100000 in
set_option maxHeartbeats 400000 in
theorem psample_any_neg (x : PS) (p : PP) (t : Int) (ht : t < 0) (w : World) (h : isPath w p x) :
    Calls Try.prog 30 #[.pointer (some ⟨p.b, 0, none⟩), .int .i64 t] w fun e w' => e = .returned (.tuple #[]) ∧ isPath w' p (x) ∧ turned w w' p.L := by
  have c0 := h.1.cell 0 rfl
  have d0 := h.2.1.cell 0 rfl
  have H := Lib.hid h
  clear h
  go_enter Try.func30, Try.ntmps30
  go_wp2_with fail
  refine (of_any _ _ _ H.out.1).mono ?_
  rintro e w' ⟨rfl, rfl⟩
  go_wp2_with fail
  refine (sample_any_neg _ t ht _).mono ?_
  rintro e w1 ⟨rfl, rfl⟩
  go_wp2_with fail
  go_end0
  exact ⟨rfl, H.out, turned_refl _ _⟩

set_option maxRecDepth 100000 in
set_option maxHeartbeats 400000 in
theorem psample_any (x : PS) (p : PP) (t : Int) (hok : x.r.ok) (ht : 0 ≤ t) (ht2 : t ≤ 9223372036854775807) (w : World) (h : isPath w p x) :
    Calls Try.prog 30 #[.pointer (some ⟨p.b, 0, none⟩), .int .i64 t] w fun e w' => e = .returned (.tuple #[]) ∧ isPath w' p (x.withR (x.r.sample t)) ∧ turned w w' p.L := by
  have c0 := h.1.cell 0 rfl
  have d0 := h.2.1.cell 0 rfl
  have H := Lib.hid h
  clear h
  go_enter Try.func30, Try.ntmps30
  go_wp2_with fail
  refine (of_any _ _ _ H.out.1).mono ?_
  rintro e w' ⟨rfl, rfl⟩
  go_wp2_with fail
  refine (sample_any x.r hok _ t ht ht2 _ H.out.2.2.1).mono ?_
  rintro e w1 ⟨rfl, o1, g1⟩
  have O1 := Lib.hid o1
  have G1 := Lib.hid g1
  clear o1 g1
  go_wp2_with fail
  go_end0
  exact ⟨rfl, H.out.setR O1.out G1.out, turned_one G1.out (inR p)⟩

theorem wacked_any (x : WS) {q : Int} (hok : x.ok q) (hp : q ≤ 1000000000000) (b : Nat) (n : Int) (hn2 : n ≤ 9223372036854775807) (full : Bool) (w : World) (hx : obj w b 81 x.cells) :
    Calls Try.prog 52 #[.pointer (some ⟨b, 0, none⟩), .int .i64 n, .bool full] w fun e w' => e = .returned (.tuple #[]) ∧ obj w' b 81 (x.acked n full).cells ∧ w.grownBy w' (some b) := by
  by_cases h1 : n < 1
  · have e : x.acked n full = x := by unfold WS.acked; exact if_pos h1
    rw [e]
    refine (acked_any_small b n h1 full w).mono ?_
    rintro e w' ⟨rfl, rfl⟩
    exact ⟨rfl, hx, only_refl _ _⟩
  · exact acked_any x hok hp b n (by omega) hn2 full w hx

set_option maxRecDepth 100000 in
set_option maxHeartbeats 400000 in
theorem packed_any (x : PS) (p : PP) {q : Int} (hok : x.s.ok q) (hq : q ≤ 1000000000000) (n : Int) (hn : n ≤ 9223372036854775807) (full : Bool) (w : World) (h : isPath w p x) :
    Calls Try.prog 31 #[.pointer (some ⟨p.b, 0, none⟩), .int .i64 n, .bool full] w fun e w' => e = .returned (.tuple #[]) ∧ isPath w' p (x.withS (x.s.acked n full)) ∧ turned w w' p.L := by
  have c0 := h.1.cell 0 rfl
  have d0 := h.2.1.cell 1 rfl
  have H := Lib.hid h
  clear h
  go_enter Try.func31, Try.ntmps31
  go_wp2_with fail
  refine (of_any _ _ _ H.out.1).mono ?_
  rintro e w' ⟨rfl, rfl⟩
  go_wp2_with fail
  refine (wacked_any x.s hok hq _ n hn full _ H.out.2.2.2).mono ?_
  rintro e w1 ⟨rfl, o1, g1⟩
  have O1 := Lib.hid o1
  have G1 := Lib.hid g1
  clear o1 g1
  go_wp2_with fail
  go_end0
  exact ⟨rfl, H.out.setW O1.out G1.out, turned_one G1.out (inW p)⟩

set_option maxRecDepth 100000 in
set_option maxHeartbeats 400000 in
theorem pfast_any (x : PS) (p : PP) {q : Int} (hok : x.s.ok q) (w : World) (h : isPath w p x) :
    Calls Try.prog 32 #[.pointer (some ⟨p.b, 0, none⟩)] w fun e w' => e = .returned (.tuple #[]) ∧ isPath w' p (x.withS x.s.fast) ∧ turned w w' p.L := by
  have c0 := h.1.cell 0 rfl
  have d0 := h.2.1.cell 1 rfl
  have H := Lib.hid h
  clear h
  go_enter Try.func32, Try.ntmps32
  go_wp2_with fail
  refine (of_any _ _ _ H.out.1).mono ?_
  rintro e w' ⟨rfl, rfl⟩
  go_wp2_with fail
  refine (fast_any x.s hok _ _ H.out.2.2.2).mono ?_
  rintro e w1 ⟨rfl, o1, g1⟩
  have O1 := Lib.hid o1
  have G1 := Lib.hid g1
  clear o1 g1
  go_wp2_with fail
  go_end0
  exact ⟨rfl, H.out.setW O1.out G1.out, turned_one G1.out (inW p)⟩

set_option maxRecDepth 100000 in
set_option maxHeartbeats 400000 in
theorem fails_any (x : PS) {q : Int} (hok : x.ok q) (p : PP) (w : World) (h : isPath w p x) :
    Calls Try.prog 39 #[.pointer (some ⟨p.s, 0, none⟩)] w fun e w' => e = .returned (.tuple #[]) ∧ isPath w' p x.fails ∧ turned w w' p.L := by
  obtain ⟨k1, k2, k3, k4, k5, k6, k7, k8, k9, k10⟩ := hok
  have K9 := Lib.hid k9
  clear k9 k10
  have f2 := h.2.1.free 2
  have d2 := h.2.1.cell 2 rfl
  have d3 := h.2.1.cell 3 rfl
  have d0 := h.2.1.cell 0 rfl
  have H := Lib.hid h
  clear h
  have EM := Lib.hid (show (if x.may < x.bad then x.may + 1 else x.bad + 1) = min (x.bad + 1) (x.may + 1) by omega)
  go_enter Try.func39, Try.ntmps39
  by_cases hb : x.may < x.bad
  all_goals go_wp2_with fail
  all_goals go_region
  all_goals go_wp2_with fail
  · have hs := H.out.setS 2 (.int .i64 (x.may + 1)) (x.withBad (x.may + 1)) rfl rfl rfl
    have HS := Lib.hid (show isPath _ p (x.withBad (x.may + 1)) from hs.drew)
    clear hs
    refine (back_any x.r K9.out _ _ HS.out.2.2.1).mono ?_
    rintro e w1 ⟨rfl, o1, g1⟩
    have O1 := Lib.hid o1
    have G1 := Lib.hid g1
    clear o1 g1
    go_wp2_with fail
    go_end0
    refine ⟨rfl, (HS.out.setR O1.out G1.out).val ?_, turned_trans (by repeat (first | exact turned_refl _ _ | apply turned_drew' | (refine turned_set ?_ (inS p) _))) (turned_one G1.out (inR p))⟩
    simp [PS.withR, PS.withBad, PS.fails]; omega
  · have hs := H.out.setS 2 (.int .i64 (x.bad + 1)) (x.withBad (x.bad + 1)) rfl rfl rfl
    have HS := Lib.hid (show isPath _ p (x.withBad (x.bad + 1)) from hs.drew)
    clear hs
    refine (back_any x.r K9.out _ _ HS.out.2.2.1).mono ?_
    rintro e w1 ⟨rfl, o1, g1⟩
    have O1 := Lib.hid o1
    have G1 := Lib.hid g1
    clear o1 g1
    go_wp2_with fail
    go_end0
    refine ⟨rfl, (HS.out.setR O1.out G1.out).val ?_, turned_trans (by repeat (first | exact turned_refl _ _ | apply turned_drew' | (refine turned_set ?_ (inS p) _))) (turned_one G1.out (inR p))⟩
    simp [PS.withR, PS.withBad, PS.fails]; omega

set_option maxRecDepth 100000 in
set_option maxHeartbeats 1000000 in
theorem ptimeout_any (x : PS) {q : Int} (hok : x.ok q) (hq : 0 ≤ q) (p : PP) (w : World) (h : isPath w p x) :
    Calls Try.prog 17 #[.pointer (some ⟨p.b, 0, none⟩)] w fun e w' => e = .returned (.bool x.timeoutB) ∧ isPath w' p x.timeout ∧ turned w w' p.L := by
  have c0 := h.1.cell 0 rfl
  have d1 := h.2.1.cell 1 rfl
  have HK := Lib.hid hok
  have H := Lib.hid h
  clear h hok
  cases ha : x.act
  all_goals have HA := Lib.hid ha
  all_goals clear ha
  all_goals go_enter Try.func17, Try.ntmps17
  all_goals go_wp2_with fail
  all_goals refine (of_any _ _ _ H.out.1).mono ?_
  all_goals rintro e w' ⟨rfl, rfl⟩
  all_goals go_wp2_with fail
  all_goals refine (active_any x p _ H.out).mono ?_
  all_goals rintro e w' ⟨rfl, n1, rfl⟩
  all_goals rw [HA.out]
  all_goals go_wp2_with fail
  all_goals refine (timeout_any x.s HK.out.2.2.2.2.2.2.2.2.2 _ _ (H.out.drewN n1).2.2.2).mono ?_
  all_goals rintro e w2 ⟨rfl, o2, g2⟩
  all_goals have O2 := Lib.hid ((H.out.drewN n1).setW o2 g2)
  all_goals have T2 := Lib.hid (turned_one (L := p.L) g2 (inW p))
  all_goals have e0 := O2.out.1.cell 0 rfl
  all_goals clear o2 g2
  all_goals go_wp2_with fail
  all_goals refine (fails_any (x.withS x.s.timeout) (pok_withS HK.out (wok_timeout HK.out.2.2.2.2.2.2.2.2.2 hq)) p _ O2.out).mono ?_
  all_goals rintro e w3 ⟨rfl, o3, t3⟩
  all_goals have O3 := Lib.hid o3
  all_goals have T3 := Lib.hid (turned_trans (turned_trans (turned_drewN w n1 p.L) T2.out) t3)
  all_goals clear o3 t3
  all_goals go_wp2_with fail
  · go_ret
    exact ⟨ret_bool (by unfold PS.timeoutB; rw [HA.out]; rfl), O3.out, T3.out⟩
  · refine (active_any x.timeout p _ O3.out).mono ?_
    rintro e w' ⟨rfl, n2, rfl⟩
    go_wp2_with fail
    go_ret
    exact ⟨ret_bool (by unfold PS.timeoutB; rw [HA.out]; rfl), O3.out.drewN n2, turned_drewN' n2 T3.out⟩

set_option maxRecDepth 100000 in
set_option maxHeartbeats 400000 in
theorem answered_ref (x : PS) (p : PP) (w : World) (h : isRef w p x) :
    Calls Try.prog 43 #[.pointer (some ⟨p.s, 0, none⟩)] w fun e w' => e = .returned (.tuple #[]) ∧ isRef w' p (x.answered) ∧ turned w w' p.L := by
  have f2 := h.1.free 2
  have f6 := h.1.free 6
  have d2 := h.1.cell 2 rfl
  have d6 := h.1.cell 6 rfl
  have H := Lib.hid h
  clear h
  go_enter Try.func43, Try.ntmps43
  go_wp2_with fail
  go_end0
  refine ⟨rfl, ?_, by repeat (first | exact turned_refl _ _ | apply turned_drew' | apply turned_drewN' | (refine turned_set ?_ (inS p) _))⟩
  exact (((H.out.setS 2 (.int .i64 0) (x.withBad 0) rfl rfl rfl).setS 6 (.bool false) x.answered rfl rfl rfl))

set_option maxRecDepth 100000 in
set_option maxHeartbeats 400000 in
theorem psample_ref_neg (x : PS) (p : PP) (t : Int) (ht : t < 0) (w : World) (h : isRef w p x) :
    Calls Try.prog 44 #[.pointer (some ⟨p.s, 0, none⟩), .int .i64 t] w fun e w' => e = .returned (.tuple #[]) ∧ isRef w' p (x) ∧ turned w w' p.L := by
  have d0 := h.1.cell 0 rfl
  have H := Lib.hid h
  clear h
  go_enter Try.func44, Try.ntmps44
  go_wp2_with fail
  refine (sample_ref_neg _ t ht _).mono ?_
  rintro e w1 ⟨rfl, rfl⟩
  go_wp2_with fail
  go_end0
  exact ⟨rfl, H.out, turned_refl _ _⟩

set_option maxRecDepth 100000 in
set_option maxHeartbeats 400000 in
theorem psample_ref (x : PS) (p : PP) (t : Int) (hok : x.r.ok) (ht : 0 ≤ t) (ht2 : t ≤ 9223372036854775807) (w : World) (h : isRef w p x) :
    Calls Try.prog 44 #[.pointer (some ⟨p.s, 0, none⟩), .int .i64 t] w fun e w' => e = .returned (.tuple #[]) ∧ isRef w' p (x.withR (x.r.sample t)) ∧ turned w w' p.L := by
  have d0 := h.1.cell 0 rfl
  have H := Lib.hid h
  clear h
  go_enter Try.func44, Try.ntmps44
  go_wp2_with fail
  refine (sample_ref x.r hok _ t ht ht2 _ H.out.2.1).mono ?_
  rintro e w1 ⟨rfl, o1, g1⟩
  have O1 := Lib.hid o1
  have G1 := Lib.hid g1
  clear o1 g1
  go_wp2_with fail
  go_end0
  exact ⟨rfl, H.out.setR O1.out G1.out, turned_one G1.out (inR p)⟩

theorem wacked_ref (x : WS) {q : Int} (hok : x.ok q) (hp : q ≤ 1000000000000) (b : Nat) (n : Int) (hn2 : n ≤ 9223372036854775807) (full : Bool) (w : World) (hx : obj w b 85 x.cells) :
    Calls Try.prog 59 #[.pointer (some ⟨b, 0, none⟩), .int .i64 n, .bool full] w fun e w' => e = .returned (.tuple #[]) ∧ obj w' b 85 (x.acked n full).cells ∧ w.grownBy w' (some b) := by
  by_cases h1 : n < 1
  · have e : x.acked n full = x := by unfold WS.acked; exact if_pos h1
    rw [e]
    refine (acked_ref_small b n h1 full w).mono ?_
    rintro e w' ⟨rfl, rfl⟩
    exact ⟨rfl, hx, only_refl _ _⟩
  · exact acked_ref x hok hp b n (by omega) hn2 full w hx

set_option maxRecDepth 100000 in
set_option maxHeartbeats 400000 in
theorem packed_ref (x : PS) (p : PP) {q : Int} (hok : x.s.ok q) (hq : q ≤ 1000000000000) (n : Int) (hn : n ≤ 9223372036854775807) (full : Bool) (w : World) (h : isRef w p x) :
    Calls Try.prog 45 #[.pointer (some ⟨p.s, 0, none⟩), .int .i64 n, .bool full] w fun e w' => e = .returned (.tuple #[]) ∧ isRef w' p (x.withS (x.s.acked n full)) ∧ turned w w' p.L := by
  have d0 := h.1.cell 1 rfl
  have H := Lib.hid h
  clear h
  go_enter Try.func45, Try.ntmps45
  go_wp2_with fail
  refine (wacked_ref x.s hok hq _ n hn full _ H.out.2.2).mono ?_
  rintro e w1 ⟨rfl, o1, g1⟩
  have O1 := Lib.hid o1
  have G1 := Lib.hid g1
  clear o1 g1
  go_wp2_with fail
  go_end0
  exact ⟨rfl, H.out.setW O1.out G1.out, turned_one G1.out (inW p)⟩

set_option maxRecDepth 100000 in
set_option maxHeartbeats 400000 in
theorem pfast_ref (x : PS) (p : PP) {q : Int} (hok : x.s.ok q) (w : World) (h : isRef w p x) :
    Calls Try.prog 46 #[.pointer (some ⟨p.s, 0, none⟩)] w fun e w' => e = .returned (.tuple #[]) ∧ isRef w' p (x.withS x.s.fast) ∧ turned w w' p.L := by
  have d0 := h.1.cell 1 rfl
  have H := Lib.hid h
  clear h
  go_enter Try.func46, Try.ntmps46
  go_wp2_with fail
  refine (fast_ref x.s hok _ _ H.out.2.2).mono ?_
  rintro e w1 ⟨rfl, o1, g1⟩
  have O1 := Lib.hid o1
  have G1 := Lib.hid g1
  clear o1 g1
  go_wp2_with fail
  go_end0
  exact ⟨rfl, H.out.setW O1.out G1.out, turned_one G1.out (inW p)⟩

set_option maxRecDepth 100000 in
set_option maxHeartbeats 400000 in
theorem fails_ref (x : PS) {q : Int} (hok : x.ok q) (p : PP) (w : World) (h : isRef w p x) :
    Calls Try.prog 62 #[.pointer (some ⟨p.s, 0, none⟩)] w fun e w' => e = .returned (.tuple #[]) ∧ isRef w' p x.fails ∧ turned w w' p.L := by
  obtain ⟨k1, k2, k3, k4, k5, k6, k7, k8, k9, k10⟩ := hok
  have K9 := Lib.hid k9
  clear k9 k10
  have f2 := h.1.free 2
  have d2 := h.1.cell 2 rfl
  have d3 := h.1.cell 3 rfl
  have d0 := h.1.cell 0 rfl
  have H := Lib.hid h
  clear h
  by_cases hb : x.bad ≤ x.may
  · have hd : decide (x.bad ≤ x.may) = true := by simpa using hb
    go_enter Try.func62, Try.ntmps62
    go_wp2_with fail
    go_quiet (fail)
    go_wp2_with fail
    refine (back_ref x.r K9.out _ _ ((H.out.drewN _).setS 2 (.int .i64 (x.bad + 1)) (x.withBad (x.bad + 1)) rfl rfl rfl).2.1).mono ?_
    rintro e w1 ⟨rfl, o1, g1⟩
    have O1 := Lib.hid o1
    have G1 := Lib.hid g1
    clear o1 g1
    go_wp2_with fail
    go_end0
    refine ⟨rfl, (((H.out.drewN _).setS 2 (.int .i64 (x.bad + 1)) (x.withBad (x.bad + 1)) rfl rfl rfl).setR O1.out G1.out).val ?_, turned_trans (by repeat (first | exact turned_refl _ _ | apply turned_drew' | apply turned_drewN' | (refine turned_set ?_ (inS p) _))) (turned_one G1.out (inR p))⟩
    simp [PS.withR, PS.withBad, PS.fails]; omega
  · have hd : decide (x.bad ≤ x.may) = false := by simpa using hb
    go_enter Try.func62, Try.ntmps62
    go_wp2_with fail
    go_quiet (fail)
    go_wp2_with fail
    refine (back_ref x.r K9.out _ _ (H.out.drewN _).2.1).mono ?_
    rintro e w1 ⟨rfl, o1, g1⟩
    have O1 := Lib.hid o1
    have G1 := Lib.hid g1
    clear o1 g1
    go_wp2_with fail
    go_end0
    refine ⟨rfl, ((H.out.drewN _).setR O1.out G1.out).val ?_, turned_trans (by repeat (first | exact turned_refl _ _ | apply turned_drew' | apply turned_drewN' | (refine turned_set ?_ (inS p) _))) (turned_one G1.out (inR p))⟩
    obtain ⟨b1, b2, b3, b4, b5, b6, b7⟩ := x
    simp [PS.withR, PS.fails] at hb ⊢
    simp only at k2
    omega

set_option maxRecDepth 100000 in
set_option maxHeartbeats 1000000 in
theorem ptimeout_ref (x : PS) {q : Int} (hok : x.ok q) (hq : 0 ≤ q) (p : PP) (w : World) (h : isRef w p x) :
    Calls Try.prog 47 #[.pointer (some ⟨p.s, 0, none⟩)] w fun e w' => e = .returned (.bool x.timeoutB) ∧ isRef w' p x.timeout ∧ turned w w' p.L := by
  have d1 := h.1.cell 1 rfl
  have HK := Lib.hid hok
  have H := Lib.hid h
  clear h hok
  cases ha : x.act
  all_goals have HA := Lib.hid ha
  all_goals clear ha
  all_goals go_enter Try.func47, Try.ntmps47
  all_goals go_wp2_with fail
  all_goals refine (active_ref x p _ H.out).mono ?_
  all_goals rintro e w' ⟨rfl, n1, rfl⟩
  all_goals rw [HA.out]
  all_goals go_wp2_with fail
  all_goals refine (timeout_ref x.s HK.out.2.2.2.2.2.2.2.2.2 _ _ (H.out.drewN n1).2.2).mono ?_
  all_goals rintro e w2 ⟨rfl, o2, g2⟩
  all_goals have O2 := Lib.hid ((H.out.drewN n1).setW o2 g2)
  all_goals have T2 := Lib.hid (turned_one (L := p.L) g2 (inW p))
  all_goals have e0 := O2.out.1.cell 0 rfl
  all_goals clear o2 g2
  all_goals go_wp2_with fail
  all_goals refine (fails_ref (x.withS x.s.timeout) (pok_withS HK.out (wok_timeout HK.out.2.2.2.2.2.2.2.2.2 hq)) p _ O2.out).mono ?_
  all_goals rintro e w3 ⟨rfl, o3, t3⟩
  all_goals have O3 := Lib.hid o3
  all_goals have T3 := Lib.hid (turned_trans (turned_trans (turned_drewN w n1 p.L) T2.out) t3)
  all_goals clear o3 t3
  all_goals go_wp2_with fail
  · go_ret
    exact ⟨ret_bool (by unfold PS.timeoutB; rw [HA.out]; rfl), O3.out, T3.out⟩
  · refine (active_ref x.timeout p _ O3.out).mono ?_
    rintro e w' ⟨rfl, n2, rfl⟩
    go_wp2_with fail
    go_ret
    exact ⟨ret_bool (by unfold PS.timeoutB; rw [HA.out]; rfl), O3.out.drewN n2, turned_drewN' n2 T3.out⟩

end Go.Proofs.Ytfboihbanehgcaa
