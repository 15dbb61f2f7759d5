/- The anchor of chapter 20. No condition. -/
import Derived.Test.YtibnjakiagcopaaOutqOwn
namespace Go.Proofs.Ytibnjakiagcopaa
open Go.RowKit Go.Deep
set_option linter.unusedVariables false
set_option linter.unusedSimpArgs false

theorem oput_own (g : Nat) (F : List Nat) (S S' : QS) (n : Nat) (s : Int) (o : Bool) (mv : Value) (B : List Int) (un : Int) (w0 w : World) (h : Own w0 w g F S) (hk : S.ok n) (hn : n ≤ 1000000) (hv : LiesB w mv B) (hB : B.length ≤ 4000000) (hs : 0 ≤ s ∧ s < 65536) (hu : un ≤ 9223372036854775807) (he : S.err s B.length un = 0) (hS : S.put s o B un = S') (m : Int) (hm : S.many = m) :
    Calls Try.prog 10 #[.pointer (some ⟨g, 0, none⟩), .agg #[.int .u16 s, .bool o, mv], .int .i64 un] w fun e w' => e = .returned (.tuple #[.int .i64 m, .int .i64 0]) ∧ ∃ F', Own w0 w' g F' S' ∧ grewFoot w F F' ∧ turned w w' F := by
  subst hm
  refine (oput g F S n s o mv B un w h.1 hk hn hv hB hs hu he).mono ?_
  rintro e w' ⟨rfl, ⟨F', h1, h2⟩, t⟩
  exact ⟨rfl, F', h.grew (hS ▸ h1) h2 t, h2, t⟩
/-- The next piece. -/
def QS.piece (S : QS) (x : IT) (k : Nat) : DD := ⟨0, x.s, S.num x, !x.o, decide (x.at_ = 0), decide (x.at_ + k = x.B.length), (x.B.drop x.at_).take k⟩
theorem onext_own (g : Nat) (F : List Nat) (S S' : QS) (n : Nat) (m : Int) (x : IT) (L : List IT) (k : Nat) (d : DD) (w0 w : World) (h : Own w0 w g F S) (hk : S.ok n) (hn : n ≤ 1000000) (hl : S.L = x :: L) (hm : 1 ≤ m) (hkm : (k : Int) = min m (x.left : Int)) (hS : S.next x L k = S') (hd : S.piece x k = d) :
    Calls Try.prog 11 #[.pointer (some ⟨g, 0, none⟩), .int .i64 m] w fun e w' => ∃ a c, e = .returned (.tuple #[.agg #[.int .u32 d.t, .int .u16 d.s, .int .u16 d.n, .bool d.u, .bool d.f, .bool d.l, .slice a k c], .int .i64 x.id, .bool true]) ∧ d.B.length = k ∧
      w'.ownsRow w.heap.size 5 1 (.slice a k c) k (flat cB d.B) ∧ LiesB w' (.slice a k c) d.B ∧ (∀ q, (Value.slice a k c).ownBlock = some q → q ∉ F) ∧ ∃ F', Own w0 w' g F' S' ∧ (∀ q, q ∈ F' → q ∈ F) ∧ turned w w' F := by
  subst hd
  refine (onext g F S n m x L k w h.1 hk hn hl hm hkm).mono ?_
  rintro e w' ⟨da, dc, rfl, hr, ⟨F', h1, h2⟩, t⟩
  have hx := hk.it x (by rw [hl]; simp)
  have hlen : (S.piece x k).B.length = k := by
    show ((x.B.drop x.at_).take k).length = k
    have := hx.a1
    unfold IT.left at hkm
    simp
    omega
  refine ⟨da, dc, rfl, hlen, hr, ⟨?_, fun y hy => hx.by_ y (List.mem_of_mem_drop (List.mem_of_mem_take hy))⟩, fun q hq e => (by have h1 := h.1.lt q e; have h2 := (row_lt0 hr q hq).1; omega), F', h.sub (hS ▸ h1) h2 t, h2, t⟩
  rw [hlen]
  exact Lies.row hr
theorem oput_bad (g : Nat) (F : List Nat) (S : QS) (n : Nat) (s : Int) (o : Bool) (mv : Value) (B : List Int) (un : Int) (w0 w : World) (h : Own w0 w g F S) (hk : S.ok n) (hv : LiesB w mv B) (hB : B.length ≤ 9223372036854775807) (hs : 0 ≤ s ∧ s < 65536) (E : Int) (he : S.err s B.length un = E) (hE : E ≠ 0) :
    Calls Try.prog 10 #[.pointer (some ⟨g, 0, none⟩), .agg #[.int .u16 s, .bool o, mv], .int .i64 un] w fun e w' => e = .returned (.tuple #[.int .i64 0, .int .i64 E]) ∧ Own w0 w' g F S ∧ turned w w' [] := by
  subst he
  refine (oput_no g F S n s o mv B un w h.1 hk hv hB hs hE).mono ?_
  rintro e w' ⟨rfl, t⟩
  exact ⟨rfl, h.past t, t⟩
theorem oexpire_own (g : Nat) (F : List Nat) (S S' : QS) (n : Nat) (now : Int) (X : XS) (w0 w : World) (h : Own w0 w g F S) (hk : S.ok n) (hn : n ≤ 1000000) (hS : S.expire now = S') (hX : XS.zero.run now S.L = X) :
    Calls Try.prog 12 #[.pointer (some ⟨g, 0, none⟩), .int .i64 now] w fun e w' => ∃ a c, e = .returned (.tuple #[.agg #[.int .u32 0, .int .u16 X.s, .int .u16 X.n, .bool X.u, .bool false, .bool X.some, .slice a X.B.length c], .int .i64 X.id, .bool X.some]) ∧
      w'.ownsRow w.heap.size 5 1 (.slice a X.B.length c) X.B.length (flat cB X.B) ∧ (∀ q, (Value.slice a X.B.length c).ownBlock = some q → q ∉ F) ∧ ∃ F', Own w0 w' g F' S' ∧ (∀ q, q ∈ F' → q ∈ F) ∧ turned w w' F := by
  subst hX
  refine (oexpire g F S n now w h.1 hk hn).mono ?_
  rintro e w' ⟨dv, rfl, hr, ⟨F', h1, h2⟩, t⟩
  obtain ⟨a, c, rfl, _, _, _⟩ := row_form hr
  exact ⟨a, c, rfl, hr, fun q hq e => by have h1 := h.1.lt q e; have h2 := (row_lt0 hr q hq).1; omega, F', h.sub (hS ▸ h1) h2 t, h2, t⟩
theorem ofree_own (g : Nat) (F : List Nat) (S S' : QS) (k : Nat) (n : Int) (w0 w : World) (h : Own w0 w g F S) (hk : S.ok k) (hS : ({ S with used := freed S.used n } : QS) = S') :
    Calls Try.prog 25 #[.pointer (some ⟨g, 0, none⟩), .int .i64 n] w fun e w' => e = .returned (.tuple #[]) ∧ Own w0 w' g F S' ∧ turned w w' F := by
  refine (ofree g F S k n w h.1 hk).mono ?_
  rintro e w' ⟨rfl, h1, t⟩
  exact ⟨rfl, h.sub (hS ▸ h1) (fun q hq => hq) t, t⟩
def W2 : QS := ⟨[⟨0, true, [97, 98, 99, 100], 0, 0, 0, 0⟩], 1, 10, 4, [0, 0]⟩
def W3 : QS := ⟨[⟨0, true, [97, 98, 99, 100], 0, 0, 0, 0⟩, ⟨0, true, [101, 102, 103], 1, 5, 0, 0⟩], 2, 10, 7, [0, 0]⟩
def W4 : QS := ⟨[⟨0, true, [97, 98, 99, 100], 0, 0, 3, 0⟩, ⟨0, true, [101, 102, 103], 1, 5, 0, 0⟩], 2, 10, 7, [1, 0]⟩
def W5 : QS := ⟨[⟨0, true, [97, 98, 99, 100], 0, 0, 3, 0⟩], 2, 10, 4, [1, 0]⟩
def W6 : QS := ⟨[], 2, 10, 4, [1, 0]⟩
def W7 : QS := ⟨[], 2, 10, 0, [1, 0]⟩
def W8 : QS := ⟨[⟨0, true, [104], 2, 7, 0, 0⟩], 3, 10, 1, [1, 0]⟩
def W9 : QS := ⟨[], 3, 10, 1, [2, 0]⟩
theorem e2 : (newQ 2 10).put 0 true [97, 98, 99, 100] 0 = W2 := rfl
theorem e3 : W2.put 0 true [101, 102, 103] 5 = W3 := rfl
theorem e4 : W3.next ⟨0, true, [97, 98, 99, 100], 0, 0, 0, 0⟩ [⟨0, true, [101, 102, 103], 1, 5, 0, 0⟩] 3 = W4 := rfl
theorem e5 : W4.expire 9 = W5 := rfl
theorem e6 : W5.next ⟨0, true, [97, 98, 99, 100], 0, 0, 3, 0⟩ [] 1 = W6 := rfl
theorem e7 : ({ W6 with used := freed W6.used 4 } : QS) = W7 := rfl
theorem e8 : W7.put 0 true [104] 7 = W8 := rfl
theorem e9 : W8.next ⟨0, true, [104], 2, 7, 0, 0⟩ [] 1 = W9 := rfl
theorem ok2 : W2.ok 1 := e2 ▸ QS.put_ok (newQ_ok 2 10 (by omega) (by omega) 0) 0 true [97, 98, 99, 100] 0 (by decide) (by intro x hx; simp at hx; omega) (by decide) (by decide) (by decide) (by omega)
theorem ok3 : W3.ok 2 := e3 ▸ QS.put_ok ok2 0 true [101, 102, 103] 5 (by decide) (by intro x hx; simp at hx; omega) (by decide) (by decide) (by decide) (by omega)
theorem ok4 : W4.ok 2 := e4 ▸ QS.next_ok ok3 rfl 3 (by decide)
theorem ok5 : W5.ok 2 := e5 ▸ QS.expire_ok ok4 9
theorem ok6 : W6.ok 2 := e6 ▸ QS.next_ok ok5 rfl 1 (by decide)
theorem ok7 : W7.ok 2 := e7 ▸ QS.free_ok ok6 4
theorem ok8 : W8.ok 3 := e8 ▸ QS.put_ok ok7 0 true [104] 7 (by decide) (by intro x hx; simp at hx; omega) (by decide) (by decide) (by decide) (by omega)
theorem ok9 : W9.ok 3 := e9 ▸ QS.next_ok ok8 rfl 1 (by decide)
end Go.Proofs.Ytibnjakiagcopaa
