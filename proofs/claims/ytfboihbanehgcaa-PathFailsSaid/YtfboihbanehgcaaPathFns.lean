/- The path of package path: its readers. Conditions: the path's four blocks lie in memory with these fields. -/
import Derived.Test.YtfboihbanehgcaaRtoNew
import Derived.Test.YtfboihbanehgcaaWinRef
namespace Go.Proofs.Ytfboihbanehgcaa
open Go.RowKit
set_option linter.unusedVariables false
set_option linter.unusedSimpArgs false

/-- What a call leaves: all blocks but those of the list are as they were. -/
def turned (w w' : World) (L : List Nat) : Prop :=
  w'.os = w.os ∧ w'.tape = w.tape ∧ w'.output = w.output ∧ w.heap.size ≤ w'.heap.size ∧ ∀ k, k < w.heap.size → k ∉ L → w'.heap[k]? = w.heap[k]?
theorem turned_refl (w : World) (L : List Nat) : turned w w L := ⟨rfl, rfl, rfl, Nat.le_refl _, fun _ _ _ => rfl⟩
theorem turned_trans {a b c : World} {L : List Nat} (h : turned a b L) (k : turned b c L) : turned a c L :=
  ⟨k.1.trans h.1, k.2.1.trans h.2.1, k.2.2.1.trans h.2.2.1, Nat.le_trans h.2.2.2.1 k.2.2.2.1, fun i hi hn => (k.2.2.2.2 i (Nat.lt_of_lt_of_le hi h.2.2.2.1) hn).trans (h.2.2.2.2 i hi hn)⟩
theorem turned_more {a b : World} {L M : List Nat} (h : turned a b L) (hs : ∀ k, k ∈ L → k ∈ M) : turned a b M :=
  ⟨h.1, h.2.1, h.2.2.1, h.2.2.2.1, fun i hi hn => h.2.2.2.2 i hi (fun e => hn (hs i e))⟩
theorem turned_one {a b : World} {c : Nat} {L : List Nat} (h : a.grownBy b (some c)) (hc : c ∈ L) : turned a b L :=
  ⟨h.os, h.tape, h.output, h.size, fun i hi hn => h.block i hi (fun e => hn (by cases e; exact hc))⟩
theorem turned_none {a b : World} {L : List Nat} (h : a.grownBy b none) : turned a b L :=
  ⟨h.os, h.tape, h.output, h.size, fun i hi _ => h.block i hi (by simp)⟩
theorem turned_drewN (w : World) (n : Nat) (L : List Nat) : turned w (w.drewN n) L := ⟨rfl, rfl, rfl, Nat.le_refl _, fun _ _ _ => rfl⟩
theorem turned_drew (w : World) (L : List Nat) : turned w w.drew L := ⟨rfl, rfl, rfl, Nat.le_refl _, fun _ _ _ => rfl⟩
theorem turned_set {a w : World} {b i : Nat} {L : List Nat} (h : turned a w L) (hb : b ∈ L) (v : Value) : turned a (w.setCell ⟨b, i, none⟩ v) L :=
  turned_trans h (turned_one (only_set (only_refl w (some b)) v) hb)
theorem turned_drew' {a w : World} {L : List Nat} (h : turned a w L) : turned a w.drew L := h
theorem turned_drewN' {a w : World} {L : List Nat} (n : Nat) (h : turned a w L) : turned a (w.drewN n) L := h
theorem turned_alloc {a w : World} {L : List Nat} (h : turned a w L) (o : Obj) : turned a (w.alloc o) L := turned_trans h (turned_none (only_alloc (only_refl w none) o))
theorem obj.past {w w' : World} {b : Nat} {t : TypeId} {cs : List Value} {L : List Nat} (h : obj w b t cs) (hg : turned w w' L) (hb : b ∉ L) : obj w' b t cs :=
  (hg.2.2.2.2 b h.lt hb).trans h
theorem below_turned {W w w' : World} {L : List Nat} (h : Below W.heap.size W w) (hg : turned w w' L) (hL : ∀ k, k ∈ L → W.heap.size ≤ k) : Below W.heap.size W w' :=
  ⟨hg.1.trans h.os, hg.2.1.trans h.tape, hg.2.2.1.trans h.output, Nat.le_trans h.size hg.2.2.2.1,
    fun k hk => (hg.2.2.2.2 k (Nat.lt_of_lt_of_le hk h.size) (fun e => by have := hL k e; omega)).trans (h.block k hk)⟩
theorem turned_cell {w w' : World} {L : List Nat} (h : turned w w' L) {a : Addr} {v : Value} (hv : w.cell? a = some v) (hne : a.block ∉ L) : w'.cell? a = some v := by
  have hlt := World.block_lt_of_cell? _ _ hv
  rw [World.cell?_of_block (h.2.2.2.2 a.block hlt hne)]
  exact hv

/-- A path's fields. -/
structure PS where
  bad : Int
  may : Int
  next : Int
  beat : Int
  opn : Bool
  r : RS
  s : WS
/-- Where its blocks lie. -/
structure PP where
  b : Nat
  s : Nat
  r : Nat
  w : Nat
def PS.cells (x : PS) (p : PP) : List Value := [.pointer (some ⟨p.r, 0, none⟩), .pointer (some ⟨p.w, 0, none⟩), .int .i64 x.bad, .int .i64 x.may, .int .i64 x.next, .int .i64 x.beat, .bool x.opn]
def isPath (w : World) (p : PP) (x : PS) : Prop :=
  obj w p.b 64 [.pointer (some ⟨p.s, 0, none⟩)] ∧ obj w p.s 62 (x.cells p) ∧ obj w p.r 79 x.r.cells ∧ obj w p.w 81 x.s.cells
def isRef (w : World) (p : PP) (x : PS) : Prop :=
  obj w p.s 75 (x.cells p) ∧ obj w p.r 83 x.r.cells ∧ obj w p.w 85 x.s.cells
def PP.L (p : PP) : List Nat := [p.s, p.r, p.w]
/-- The blocks lie from lo to hi. -/
def PP.within (p : PP) (lo hi : Nat) : Prop := (lo ≤ p.b ∧ p.b < hi) ∧ (lo ≤ p.s ∧ p.s < hi) ∧ (lo ≤ p.r ∧ p.r < hi) ∧ (lo ≤ p.w ∧ p.w < hi)
theorem isPath.past {w w' : World} {p q : PP} {x : PS} {lo hi h2 : Nat} (h : isPath w p x) (hg : turned w w' q.L) (hp : p.within lo hi) (hq : q.within hi h2) : isPath w' p x := by
  unfold PP.within at hp hq
  refine ⟨h.1.past hg ?_, h.2.1.past hg ?_, h.2.2.1.past hg ?_, h.2.2.2.past hg ?_⟩ <;> (simp [PP.L]; omega)
theorem isRef.past {w w' : World} {p q : PP} {x : PS} {lo hi h2 : Nat} (h : isRef w p x) (hg : turned w w' q.L) (hq : q.within lo hi) (hp : p.within hi h2) : isRef w' p x := by
  unfold PP.within at hp hq
  refine ⟨h.1.past hg ?_, h.2.1.past hg ?_, h.2.2.past hg ?_⟩ <;> (simp [PP.L]; omega)
theorem isPath.stay {w w' : World} {p : PP} {x : PS} (h : isPath w p x) (hg : turned w w' []) : isPath w' p x :=
  ⟨h.1.past hg (by simp), h.2.1.past hg (by simp), h.2.2.1.past hg (by simp), h.2.2.2.past hg (by simp)⟩
theorem isRef.stay {w w' : World} {p : PP} {x : PS} (h : isRef w p x) (hg : turned w w' []) : isRef w' p x :=
  ⟨h.1.past hg (by simp), h.2.1.past hg (by simp), h.2.2.past hg (by simp)⟩
theorem below_path {W w w' : World} {p : PP} {lo hi : Nat} (h : Below W.heap.size W w) (hg : turned w w' p.L) (hp : p.within lo hi) (hl : W.heap.size ≤ lo) : Below W.heap.size W w' := by
  unfold PP.within at hp
  exact below_turned h hg (fun k hk => by simp [PP.L] at hk; omega)
theorem isPath.sep {w : World} {p : PP} {x : PS} (h : isPath w p x) : p.b ∉ p.L ∧ p.s ≠ p.r ∧ p.s ≠ p.w ∧ p.r ≠ p.w := by
  have h1 := h.1.ne h.2.1 (by decide)
  have h2 := h.1.ne h.2.2.1 (by decide)
  have h3 := h.1.ne h.2.2.2 (by decide)
  refine ⟨by simp [PP.L, h1, h2, h3], h.2.1.ne h.2.2.1 (by decide), h.2.1.ne h.2.2.2 (by decide), h.2.2.1.ne h.2.2.2 (by decide)⟩
theorem isRef.sep {w : World} {p : PP} {x : PS} (h : isRef w p x) : p.s ≠ p.r ∧ p.s ≠ p.w ∧ p.r ≠ p.w :=
  ⟨h.1.ne h.2.1 (by decide), h.1.ne h.2.2 (by decide), h.2.1.ne h.2.2 (by decide)⟩

def PS.act (x : PS) : Bool := decide (x.bad ≤ x.may)
theorem act_yes {x : PS} (h : x.bad ≤ x.may) : x.act = true := by unfold PS.act; simpa using h
theorem act_no {x : PS} (h : ¬ x.bad ≤ x.may) : x.act = false := by unfold PS.act; simpa using h

set_option maxHeartbeats 400000 in
theorem of_any (b s : Nat) (w : World) (h : obj w b 64 [.pointer (some ⟨s, 0, none⟩)]) :
    Calls Try.prog 27 #[.pointer (some ⟨b, 0, none⟩)] w fun e w' => e = .returned (.pointer (some ⟨s, 0, none⟩)) ∧ w = w' := by
  have c0 := h.cell 0 rfl
  go_enter Try.func27, Try.ntmps27
  go_wp2
  go_ret
  exact ⟨rfl, rfl⟩
set_option maxHeartbeats 400000 in
theorem of_nil (w : World) :
    Calls Try.prog 27 #[.pointer none] w fun e w' => e = .returned (.pointer none) ∧ w = w' := by
  go_enter Try.func27, Try.ntmps27
  go_wp2
  go_ret
  exact ⟨rfl, rfl⟩

/-- A reader's end: the value, and draws alone. -/
def Reads (w : World) (v : Value) (e : Ending) (w' : World) : Prop := e = .returned v ∧ ∃ n, w' = w.drewN n
theorem reads_quiet {P : Program} {f : FuncId} {args : Array Value} {w : World} {v : Value} (h : Calls P f args w (Reads w v)) : Calls P f args w fun e w' => e = .returned v ∧ ∃ n, w' = w.drewN n := h
theorem reads_same {P : Program} {f : FuncId} {args : Array Value} {w : World} {v : Value} (h : Calls P f args w fun e w' => e = .returned v ∧ w = w') : Calls P f args w (Reads w v) :=
  h.mono fun _ _ ⟨h1, h2⟩ => ⟨h1, 0, h2 ▸ rfl⟩

set_option maxHeartbeats 400000 in
theorem active_any (x : PS) (p : PP) (w : World) (h : isPath w p x) :
    Calls Try.prog 16 #[.pointer (some ⟨p.b, 0, none⟩)] w (Reads w (.bool x.act)) := by
  have c0 := h.1.cell 0 rfl
  have c2 := h.2.1.cell 2 rfl
  have c3 := h.2.1.cell 3 rfl
  have H := Lib.hid h
  clear h
  by_cases hb : x.bad ≤ x.may
  · have d := Lib.hid (act_yes hb)
    go_enter Try.func16, Try.ntmps16
    go_wp2
    go_quiet ((go_at_call 27; exact Calls.quiet_of_same (calls_flip (of_any _ _ _ H.out.1))))
    go_wp2
    go_ret
    first | exact ⟨(ret_bool d.out).symm, _, rfl⟩ | exact ⟨rfl, _, rfl⟩
  · have d := Lib.hid (act_no hb)
    go_enter Try.func16, Try.ntmps16
    go_wp2
    go_quiet ((go_at_call 27; exact Calls.quiet_of_same (calls_flip (of_any _ _ _ H.out.1))))
    go_wp2
    go_ret
    first | exact ⟨(ret_bool d.out).symm, _, rfl⟩ | exact ⟨rfl, _, rfl⟩
set_option maxHeartbeats 400000 in
theorem active_nil (w : World) :
    Calls Try.prog 16 #[.pointer none] w (Reads w (.bool false)) := by
  go_enter Try.func16, Try.ntmps16
  go_wp2
  go_quiet ((go_at_call 27; exact Calls.quiet_of_same (calls_flip (of_nil _))))
  go_wp2
  go_ret
  exact ⟨rfl, _, rfl⟩
set_option maxHeartbeats 400000 in
theorem active_ref (x : PS) (p : PP) (w : World) (h : isRef w p x) :
    Calls Try.prog 33 #[.pointer (some ⟨p.s, 0, none⟩)] w (Reads w (.bool x.act)) := by
  have c2 := h.1.cell 2 rfl
  have c3 := h.1.cell 3 rfl
  clear h
  by_cases hb : x.bad ≤ x.may
  · have d := Lib.hid (act_yes hb)
    go_enter Try.func33, Try.ntmps33
    go_wp2
    go_quiet (fail)
    go_wp2
    go_ret
    first | exact ⟨(ret_bool d.out).symm, _, rfl⟩ | exact ⟨rfl, _, rfl⟩
  · have d := Lib.hid (act_no hb)
    go_enter Try.func33, Try.ntmps33
    go_wp2
    go_quiet (fail)
    go_wp2
    go_ret
    first | exact ⟨(ret_bool d.out).symm, _, rfl⟩ | exact ⟨rfl, _, rfl⟩
set_option maxHeartbeats 400000 in
theorem active_ref_nil (w : World) :
    Calls Try.prog 33 #[.pointer none] w (Reads w (.bool false)) := by
  go_enter Try.func33, Try.ntmps33
  go_wp2
  go_quiet (fail)
  go_wp2
  go_ret
  exact ⟨rfl, _, rfl⟩

set_option maxHeartbeats 400000 in
theorem fail_any (x : PS) (p : PP) (w : World) (h : isPath w p x) :
    Calls Try.prog 18 #[.pointer (some ⟨p.b, 0, none⟩)] w fun e w' => e = .returned (.int .i64 x.bad) ∧ w = w' := by
  have c0 := h.1.cell 0 rfl
  have c2 := h.2.1.cell 2 rfl
  have H := Lib.hid h
  clear h
  go_enter Try.func18, Try.ntmps18
  go_wp2_with (go_at_call 27; refine (of_any _ _ _ H.out.1).mono ?_; rintro e w' ⟨rfl, rfl⟩)
  go_ret
  exact ⟨rfl, rfl⟩
set_option maxHeartbeats 400000 in
theorem when_any (x : PS) (p : PP) (w : World) (h : isPath w p x) :
    Calls Try.prog 20 #[.pointer (some ⟨p.b, 0, none⟩)] w fun e w' => e = .returned (.int .i64 x.next) ∧ w = w' := by
  have c0 := h.1.cell 0 rfl
  have c2 := h.2.1.cell 4 rfl
  have H := Lib.hid h
  clear h
  go_enter Try.func20, Try.ntmps20
  go_wp2_with (go_at_call 27; refine (of_any _ _ _ H.out.1).mono ?_; rintro e w' ⟨rfl, rfl⟩)
  go_ret
  exact ⟨rfl, rfl⟩
set_option maxHeartbeats 400000 in
theorem est_any (x : RS) (b : Nat) (w : World) (h : obj w b 79 x.cells) :
    Calls Try.prog 28 #[.agg #[.pointer (some ⟨b, 0, none⟩)]] w fun e w' => e = .returned (.int .i64 x.v) ∧ w.grownBy w' none := by
  have H := Lib.hid h
  clear h
  go_enter Try.func28, Try.ntmps28
  go_wp2_with (go_at_call 40; refine (value_any x _ _ (by first | exact H.out | exact H.out.alloc _)).mono ?_; rintro e w' ⟨rfl, rfl⟩)
  go_ret
  exact ⟨rfl, by first | exact only_refl _ _ | exact only_alloc (only_refl _ _) _⟩
set_option maxHeartbeats 400000 in
theorem rto_any (x : PS) (p : PP) (w : World) (h : isPath w p x) :
    Calls Try.prog 12 #[.pointer (some ⟨p.b, 0, none⟩)] w fun e w' => e = .returned (.int .i64 x.r.v) ∧ w.grownBy w' none := by
  have c0 := h.1.cell 0 rfl
  have c2 := h.2.1.cell 0 rfl
  have H := Lib.hid h
  clear h
  go_enter Try.func12, Try.ntmps12
  go_wp2_with (first | (go_at_call 27; refine (of_any _ _ _ H.out.1).mono ?_; rintro e w' ⟨rfl, rfl⟩) | (go_at_call 28; refine (est_any x.r _ _ H.out.2.2.1).mono ?_; rintro e w' ⟨rfl, g1⟩))
  go_ret
  exact ⟨rfl, g1⟩
set_option maxHeartbeats 400000 in
theorem psize_any (x : PS) (p : PP) (w : World) (h : isPath w p x) :
    Calls Try.prog 13 #[.pointer (some ⟨p.b, 0, none⟩)] w fun e w' => e = .returned (.int .i64 x.s.size) ∧ w = w' := by
  have c0 := h.1.cell 0 rfl
  have c2 := h.2.1.cell 1 rfl
  have H := Lib.hid h
  clear h
  go_enter Try.func13, Try.ntmps13
  go_wp2_with (first | (go_at_call 27; refine (of_any _ _ _ H.out.1).mono ?_; rintro e w' ⟨rfl, rfl⟩) | (go_at_call 29; refine (size_any x.s _ _ H.out.2.2.2).mono ?_; rintro e w' ⟨rfl, rfl⟩))
  go_ret
  exact ⟨rfl, rfl⟩
set_option maxHeartbeats 400000 in
theorem fail_nil (w : World) : Calls Try.prog 18 #[.pointer none] w fun e w' => e = .returned (.int .i64 0) ∧ w = w' := by
  go_enter Try.func18, Try.ntmps18
  go_wp2_with (go_at_call 27; refine (of_nil _).mono ?_; rintro e w' ⟨rfl, rfl⟩)
  go_ret
  exact ⟨rfl, rfl⟩
set_option maxHeartbeats 400000 in
theorem when_nil (w : World) : Calls Try.prog 20 #[.pointer none] w fun e w' => e = .returned (.int .i64 0) ∧ w = w' := by
  go_enter Try.func20, Try.ntmps20
  go_wp2_with (go_at_call 27; refine (of_nil _).mono ?_; rintro e w' ⟨rfl, rfl⟩)
  go_ret
  exact ⟨rfl, rfl⟩
set_option maxHeartbeats 400000 in
theorem rto_nil (w : World) : Calls Try.prog 12 #[.pointer none] w fun e w' => e = .returned (.int .i64 0) ∧ w = w' := by
  go_enter Try.func12, Try.ntmps12
  go_wp2_with (go_at_call 27; refine (of_nil _).mono ?_; rintro e w' ⟨rfl, rfl⟩)
  go_ret
  exact ⟨rfl, rfl⟩
set_option maxHeartbeats 400000 in
theorem psize_nil (w : World) : Calls Try.prog 13 #[.pointer none] w fun e w' => e = .returned (.int .i64 0) ∧ w = w' := by
  go_enter Try.func13, Try.ntmps13
  go_wp2_with (go_at_call 27; refine (of_nil _).mono ?_; rintro e w' ⟨rfl, rfl⟩)
  go_ret
  exact ⟨rfl, rfl⟩
set_option maxHeartbeats 400000 in
theorem fail_ref (x : PS) (p : PP) (w : World) (h : isRef w p x) : Calls Try.prog 34 #[.pointer (some ⟨p.s, 0, none⟩)] w fun e w' => e = .returned (.int .i64 x.bad) ∧ w = w' := by
  have c2 := h.1.cell 2 rfl
  clear h
  go_enter Try.func34, Try.ntmps34
  go_wp2
  go_ret
  exact ⟨rfl, rfl⟩
set_option maxHeartbeats 400000 in
theorem when_ref (x : PS) (p : PP) (w : World) (h : isRef w p x) : Calls Try.prog 37 #[.pointer (some ⟨p.s, 0, none⟩)] w fun e w' => e = .returned (.int .i64 x.next) ∧ w = w' := by
  have c2 := h.1.cell 4 rfl
  clear h
  go_enter Try.func37, Try.ntmps37
  go_wp2
  go_ret
  exact ⟨rfl, rfl⟩
set_option maxHeartbeats 400000 in
theorem rto_ref (x : PS) (p : PP) (w : World) (h : isRef w p x) : Calls Try.prog 35 #[.pointer (some ⟨p.s, 0, none⟩)] w fun e w' => e = .returned (.int .i64 x.r.v) ∧ w = w' := by
  have c2 := h.1.cell 0 rfl
  have H := Lib.hid h
  clear h
  go_enter Try.func35, Try.ntmps35
  go_wp2_with (go_at_call 54; refine (value_ref x.r _ _ H.out.2.1).mono ?_; rintro e w' ⟨rfl, rfl⟩)
  go_ret
  exact ⟨rfl, rfl⟩
set_option maxHeartbeats 400000 in
theorem psize_ref (x : PS) (p : PP) (w : World) (h : isRef w p x) : Calls Try.prog 36 #[.pointer (some ⟨p.s, 0, none⟩)] w fun e w' => e = .returned (.int .i64 x.s.size) ∧ w = w' := by
  have c2 := h.1.cell 1 rfl
  have H := Lib.hid h
  clear h
  go_enter Try.func36, Try.ntmps36
  go_wp2_with (go_at_call 55; refine (size_ref x.s _ _ H.out.2.2).mono ?_; rintro e w' ⟨rfl, rfl⟩)
  go_ret
  exact ⟨rfl, rfl⟩
set_option maxHeartbeats 400000 in
theorem fail_ref_nil (w : World) : Calls Try.prog 34 #[.pointer none] w fun e w' => e = .returned (.int .i64 0) ∧ w = w' := by
  go_enter Try.func34, Try.ntmps34
  go_wp2
  go_ret
  exact ⟨rfl, rfl⟩
set_option maxHeartbeats 400000 in
theorem when_ref_nil (w : World) : Calls Try.prog 37 #[.pointer none] w fun e w' => e = .returned (.int .i64 0) ∧ w = w' := by
  go_enter Try.func37, Try.ntmps37
  go_wp2
  go_ret
  exact ⟨rfl, rfl⟩
set_option maxHeartbeats 400000 in
theorem rto_ref_nil (w : World) : Calls Try.prog 35 #[.pointer none] w fun e w' => e = .returned (.int .i64 0) ∧ w = w' := by
  go_enter Try.func35, Try.ntmps35
  go_wp2
  go_ret
  exact ⟨rfl, rfl⟩
set_option maxHeartbeats 400000 in
theorem psize_ref_nil (w : World) : Calls Try.prog 36 #[.pointer none] w fun e w' => e = .returned (.int .i64 0) ∧ w = w' := by
  go_enter Try.func36, Try.ntmps36
  go_wp2
  go_ret
  exact ⟨rfl, rfl⟩
end Go.Proofs.Ytfboihbanehgcaa
