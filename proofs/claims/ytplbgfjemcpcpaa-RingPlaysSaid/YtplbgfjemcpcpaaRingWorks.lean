/- The anchor of the laws of chapter 05; RingNew; RingNil. No condition. -/
import Derived.Test.YtplbgfjemcpcpaaRingHeldI
import Derived.Test.YtplbgfjemcpcpaaRingHeldS
import Derived.Test.YtplbgfjemcpcpaaRingB
namespace Go.Proofs.Ytplbgfjemcpcpaa
open Go.RowKit Go.Conc
set_option linter.unusedVariables false
set_option linter.unusedSimpArgs false

set_option maxRecDepth 100000 in
set_option maxHeartbeats 2000000 in
theorem works_any (w : World) : Calls Try.prog 10 #[] w fun e w' => e = .returned (.bool true) ∧ Below w.heap.size w w' := by
  go_enter Try.func10, Try.ntmps10
  go_wp2_with fail
  refine (hnewI w w (Below.refl _ _) 2 (by decide)).mono ?_
  rintro e w1 ⟨rfl, h1, l1⟩
  have H1 := Lib.hid h1
  clear h1 l1
  go_wp2_with fail
  refine (hpushI H1.out 7 (by decide)).mono ?_
  rintro e w2 ⟨rfl, h2⟩
  have H2 := Lib.hid h2
  clear h2
  go_wp2_with fail
  refine (hpushI H2.out 8 (by decide)).mono ?_
  rintro e w3 ⟨rfl, h3⟩
  have H3 := Lib.hid h3
  clear h3
  go_wp2_with fail
  refine (hfullI H3.out 9 (by decide)).mono ?_
  rintro e w9 ⟨rfl, rfl⟩
  go_wp2_with fail
  refine (hpopI (x := 7) (Q := [8]) H3.out).mono ?_
  rintro e w4 ⟨rfl, h4⟩
  have H4 := Lib.hid h4
  clear h4
  go_wp2_with fail
  refine (hatI H4.out 0 8 rfl).mono ?_
  rintro e w5 ⟨rfl, h5, t5⟩
  have H5 := Lib.hid h5
  clear h5 t5
  go_wp2_with fail
  refine (hlenI H5.out).mono ?_
  rintro e w9 ⟨rfl, rfl⟩
  go_wp2_with fail
  refine (hroomI H5.out).mono ?_
  rintro e w6 ⟨rfl, h6, t6⟩
  have H6 := Lib.hid h6
  clear h6 t6
  go_wp2_with fail
  go_ret
  exact ⟨rfl, H6.out.below⟩
theorem below_works {W w w' : World} (h : Below W.heap.size W w) (k : Below w.heap.size w w') : Below W.heap.size W w' := h.trans (k.mono h.size)

set_option maxRecDepth 100000 in
set_option maxHeartbeats 2000000 in
theorem ringNew.walk (W : World) (r : Int) (wr : (Lit.int .i64 r).wf = true) :
    Calls Try.prog 6 #[.int .i64 r] W fun e w' => e = .returned (.bool true) ∧ Below W.heap.size W w' := by
  by_cases h1 : 4000 < r ∧ r < 1048576
  · obtain ⟨h1, h2⟩ := h1
    go_enter Try.func6, Try.ntmps6
    go_wp2_with (go_at_call 10; refine (works_any _).mono ?_; rintro e w9 ⟨rfl, g9⟩)
    go_ret
    exact ⟨rfl, g9⟩
  by_cases h2 : r < 1
  · clear h1
    go_enter Try.func6, Try.ntmps6
    go_wp2_with fail
    refine (rnewB_bad r (Or.inl h2) _).mono ?_
    rintro e w1 ⟨rfl, rfl⟩
    go_wp2_with (go_at_call 10; refine (works_any _).mono ?_; rintro e w9 ⟨rfl, g9⟩)
    go_ret
    exact ⟨rfl, g9⟩
  by_cases h3 : 1048576 < r
  · clear h1
    go_enter Try.func6, Try.ntmps6
    go_wp2_with fail
    refine (rnewB_bad r (Or.inr h3) _).mono ?_
    rintro e w1 ⟨rfl, rfl⟩
    go_wp2_with (go_at_call 10; refine (works_any _).mono ?_; rintro e w9 ⟨rfl, g9⟩)
    go_ret
    exact ⟨rfl, g9⟩
  · have e1 : ((r.toNat : Int) - ((([] : List Bool).length : Nat) : Int) == r) = true := by simp; omega
    have e2 : (((([] : List Bool).length : Nat) : Int) == 0) = true := by simp
    have hz : r ≤ 4000 ∨ r = 1048576 := by omega
    rcases hz with hz | hz
    · clear h1
      go_enter Try.func6, Try.ntmps6
      go_wp2_with fail
      refine (rnewB r (by omega) _).mono ?_
      rintro e w1 ⟨rfl, h4, g4⟩
      have H4 := Lib.hid h4
      have G4 := Lib.hid g4
      clear h4 g4
      go_wp2_with fail
      refine (rlenB _ _ _ [] _ H4.out).mono ?_
      rintro e w9 ⟨rfl, rfl⟩
      go_wp2_with fail
      refine (rroomB _ _ _ [] _ H4.out).mono ?_
      rintro e w9 ⟨rfl, n, rfl⟩
      go_wp2_with (go_at_call 10; refine (works_any _).mono ?_; rintro e w9 ⟨rfl, g9⟩)
      go_ret
      exact ⟨rfl, below_works (below_drewN n (below_none (Below.refl _ _) G4.out)) g9⟩
    · subst hz
      clear h1
      go_enter Try.func6, Try.ntmps6
      go_wp2_with fail
      refine (rnewB 1048576 (by omega) _).mono ?_
      rintro e w1 ⟨rfl, h4, g4⟩
      have H4 := Lib.hid h4
      have G4 := Lib.hid g4
      clear h4 g4
      go_wp2_with fail
      refine (rlenB _ _ _ [] _ H4.out).mono ?_
      rintro e w9 ⟨rfl, rfl⟩
      go_wp2_with fail
      refine (rroomB _ _ _ [] _ H4.out).mono ?_
      rintro e w9 ⟨rfl, n, rfl⟩
      go_wp2_with (go_at_call 10; refine (works_any _).mono ?_; rintro e w9 ⟨rfl, g9⟩)
      go_ret
      exact ⟨rfl, below_works (below_drewN n (below_none (Below.refl _ _) G4.out)) g9⟩

set_option maxRecDepth 100000 in
set_option maxHeartbeats 2000000 in
theorem ringNil.walk (W : World) (s : ByteArray) (ws : s.size ≤ maxLen) (i : Int) (wi : (Lit.int .i64 i).wf = true) :
    Calls Try.prog 9 #[.string s, .int .i64 i] W fun e w' => e = .returned (.bool true) ∧ Below W.heap.size W w' := by
  go_enter Try.func9, Try.ntmps9
  go_wp2_with fail
  refine (clearS_nil _).mono ?_
  rintro e w1 ⟨rfl, rfl⟩
  go_wp2_with fail
  refine (popS_nil _).mono ?_
  rintro e w1 ⟨rfl, rfl⟩
  go_wp2_with fail
  refine (atS_nil i _).mono ?_
  rintro e w1 ⟨rfl, rfl⟩
  go_wp2_with fail
  refine (pushS_nil s _).mono ?_
  rintro e w1 ⟨rfl, rfl⟩
  go_wp2_with fail
  refine (rlenS_nil _).mono ?_
  rintro e w1 ⟨rfl, rfl⟩
  go_wp2_with fail
  refine (rroomS_nil _).mono ?_
  rintro e w1 ⟨rfl, n, rfl⟩
  go_wp2_with (go_at_call 10; refine (works_any _).mono ?_; rintro e w9 ⟨rfl, g9⟩)
  go_ret
  exact ⟨rfl, below_works (below_drewN n (Below.refl _ _)) g9⟩
end Go.Proofs.Ytplbgfjemcpcpaa
