/- The walk of RingFull. No condition. -/
import Derived.Test.YtplbgfjemcpcpaaRingWorks
import Derived.Test.YtplbgfjemcpcpaaRingHeldU
namespace Go.Proofs.Ytplbgfjemcpcpaa
open Go.RowKit Go.Conc Go.ChangeShapes Go.WideShapes Go.Deep
set_option linter.unusedVariables false
set_option linter.unusedSimpArgs false

/-- What lies in the ring behind i pushes: as many things, the first of them x. -/
def Filled (x : Int) (i : Nat) (Q : List Int) : Prop := Q.length = i ∧ ∀ y, Q.head? = some y → y = x
theorem filled_push {x y : Int} {i : Nat} {Q : List Int} (h : Filled x i Q) (hy : i = 0 → y = x) : Filled x (i + 1) (Q ++ [y]) := by
  refine ⟨by simp [h.1], fun z hz => ?_⟩
  cases Q with
  | nil => simp at hz; subst hz; exact hy (by simpa using h.1.symm)
  | cons a Q => exact h.2 z (by simpa using hz)
def FRel (W : World) (b N : Nat) (t : Value) (wr : World) : Prop := ∃ k : Nat, k ≤ 2 ∧ t = .int .i64 (k : Int) ∧ heldU W wr b N []
def FIn (W : World) (b N : Nat) (x : Int) (i : Value) (wr : World) : Prop := ∃ (k : Nat) (Q : List Int), k ≤ N ∧ i = .int .i64 (k : Int) ∧ Filled x k Q ∧ heldU W wr b N Q

set_option maxRecDepth 100000 in
set_option maxHeartbeats 8000000 in
theorem ringFull.walk (W : World) (r : Int) (wr : (Lit.int .u16 r).wf = true) (x : Int) (wx : (Lit.int .u32 x).wf = true) :
    Calls Try.prog 8 #[.int .u16 r, .int .u32 x] W fun e w' => e = .returned (.bool true) ∧ Below W.heap.size W w' := by
  have hr := bounds_u16 wr
  have hx := bounds_u32 wx
  have hm0 : 1 ≤ 1 + r % 3000 := by omega
  have hm1 : 1 + r % 3000 ≤ 3000 := by omega
  clear wr wx
  go_enter Try.func8, Try.ntmps8
  go_wp2_with fail
  generalize 1 + r % 3000 = m at hm0 hm1 ⊢
  obtain ⟨N, rfl⟩ := Int.eq_ofNat_of_zero_le (show 0 ≤ m by omega)
  refine (hnewU W W (Below.refl _ _) (N : Int) (by omega)).mono ?_
  rintro e w1 ⟨rfl, h1, l1⟩
  rw [Int.toNat_natCast] at h1
  have H1 := Lib.hid h1
  clear h1 l1
  go_wp2_with fail
  go_loopw [8] (fun t wr => FRel W (W.heap.size + 1) N t wr) (fun t _ => 2 - (intOf t).toNat)
  case atStart => exact ⟨0, by omega, rfl, H1.out⟩
  case round =>
    obtain ⟨t, ht, rfl, h2⟩ := hrel
    have H2 := Lib.hid h2
    clear h2
    by_cases htl : t < 2
    · have dt : decide ((t : Int) < 2) = true := by simp; omega
      go_wp2_with fail
      go_loopw [9] (fun i wr => FIn W (W.heap.size + 1) N x i wr) (fun i _ => N - (intOf i).toNat)
      case atStart => exact ⟨0, [], Nat.zero_le _, rfl, ⟨rfl, by simp⟩, H2.out⟩
      case round =>
        obtain ⟨i, Q, hi, rfl, hQ, h3⟩ := hrel
        have H3 := Lib.hid h3
        have HQ := Lib.hid hQ
        clear h3 hQ
        by_cases hlt : i < N
        · have e1 : ((N : Int) - (Q.length : Int) != (N : Int) - (i : Int)) = false := by rw [HQ.out.1]; simp
          go_wp2_with fail
          refine (hroomU H3.out).mono ?_
          rintro e w4 ⟨rfl, h4, t4⟩
          rw [HQ.out.1]
          have H4 := Lib.hid h4
          clear h4 t4
          go_wp2_with fail
          refine (hpushU H4.out _ (by rw [HQ.out.1]; exact hlt)).mono ?_
          rintro e w5 ⟨rfl, h5⟩
          have H5 := Lib.hid h5
          clear h5 e1
          go_wp2_with fail
          go_roundw
          case rel => exact ⟨i + 1, _, by omega, by go_num, filled_push HQ.out (by intro h0; subst h0; simp; omega), H5.out⟩
          case measure => simp [intOf]; omega
        · have hiN : i = N := by omega
          have hN0 : 0 < N := by omega
          have HL := Lib.hid (HQ.out.1.trans hiN)
          obtain ⟨Q', rfl⟩ : ∃ Q', Q = x :: Q' := by
            cases Q with
            | nil => have := HL.out; simp at this; omega
            | cons y Q' => exact ⟨Q', by rw [HQ.out.2 y rfl]⟩
          have HL2 := Lib.hid (show Q'.length + 1 = N by have := HL.out; simpa using this)
          clear hiN
          go_wp2_with fail
          refine (hpopU H3.out).mono ?_
          rintro e w4 ⟨rfl, h4⟩
          have H4 := Lib.hid h4
          clear h4
          go_wp2_with fail
          refine (hpushU H4.out x (by have := HL2.out; omega)).mono ?_
          rintro e w5 ⟨rfl, h5⟩
          have H5 := Lib.hid h5
          clear h5
          go_wp2_with fail
          refine (hfullU H5.out x (by have := HL2.out; simp; omega)).mono ?_
          rintro e w9 ⟨rfl, rfl⟩
          have e1 : (x != x) = false := by simp
          have E2 := Lib.hid (show (((Q' ++ [x]).length : Nat) : Int) = (N : Int) by have := HL2.out; simp; omega)
          go_wp2_with fail
          refine (hlenU H5.out).mono ?_
          rintro e w9 ⟨rfl, rfl⟩
          rw [E2.out]
          go_wp2_with fail
          refine (hroomU H5.out).mono ?_
          rintro e w6 ⟨rfl, h6, t6⟩
          rw [E2.out]
          have H6 := Lib.hid h6
          clear h6 t6
          go_wp2_with fail
          refine (hclearU H6.out).mono ?_
          rintro e w7 ⟨rfl, h7⟩
          have H7 := Lib.hid h7
          clear h7 e1
          go_wp2_with fail
          refine (hemptyU H7.out).mono ?_
          rintro e w9 ⟨rfl, rfl⟩
          have e4 : (((([] : List Int).length : Nat) : Int) != 0) = false := rfl
          have e5 : ((N : Int) - ((([] : List Int).length : Nat) : Int) != (N : Int)) = false := by simp
          go_wp2_with fail
          refine (hlenU H7.out).mono ?_
          rintro e w9 ⟨rfl, rfl⟩
          go_wp2_with fail
          refine (hroomU H7.out).mono ?_
          rintro e w8 ⟨rfl, h8, t8⟩
          have H8 := Lib.hid h8
          clear h8 t8
          go_wp2_with fail
          go_roundw
          case rel => exact ⟨t + 1, by omega, by go_num, H8.out⟩
          case measure => simp [intOf]; omega
    · go_wp2_with (go_at_call 10; refine (works_any _).mono ?_; rintro e w9 ⟨rfl, g9⟩)
      go_ret
      exact ⟨rfl, below_works H2.out.below g9⟩
end Go.Proofs.Ytplbgfjemcpcpaa
