/- What a statement of chapter 17 calls large; joining of pieces that are alike. Conditions: named. -/
import Derived.Test.YtcfpgeceenkheaaFragRow
namespace Go.Proofs.Ytcfpgeceenkheaa
open Go.RowKit Go.Deep
set_option linter.unusedVariables false
set_option linter.unusedSimpArgs false

/-- What the loop of large keeps. -/
def LgRel (w : World) (X : List PD) (Bs : List (List Int)) (n i : Value) (wr : World) : Prop :=
  ∃ j N : Nat, j ≤ X.length ∧ n = .int .i64 (N : Int) ∧ i = .int .i64 (j : Int) ∧ N ≤ 9223372036854775807 ∧ (N ≤ 131072 → N = X.length + (Bs.take j).flatten.length) ∧ turned w wr []
def LargeOut (X : List PD) (Bs : List (List Int)) (w : World) (e : Ending) (w' : World) : Prop := ∃ b, e = .returned (.bool b) ∧ (b = false → X.length ≤ 2000 ∧ Bs.flatten.length ≤ 131072) ∧ turned w w' []
set_option maxRecDepth 100000 in
set_option maxHeartbeats 4000000 in
theorem large_any (v : Value) (X : List PD) (Bs : List (List Int)) (w : World) (h : LiesF w v X Bs) :
    Calls Try.prog 18 #[v] w (LargeOut X Bs w) := by
  obtain ⟨a, cap, rfl, hc1, hc2⟩ := h.1.1.form
  have H := Lib.hid h
  clear h
  go_enter Try.func18, Try.ntmps18
  go_wp2
  go_loopw [3, 4] (fun n i wr => LgRel w X Bs n i wr) (fun _ i _ => X.length - (intOf i).toNat)
  case atStart => exact ⟨0, X.length, Nat.zero_le _, rfl, rfl, by omega, fun _ => by simp, turned_refl _ _⟩
  case round =>
    obtain ⟨j, N, hj, rfl, rfl, hN9, hN, ht⟩ := hrel
    have HT := Lib.hid ht
    have HN := Lib.hid hN
    clear ht hN
    by_cases hlt : j < X.length
    · by_cases hn : N ≤ 131072
      · have hL := H.out.none_ HT.out
        obtain ⟨b, off, rfl, hb, c0, c1, c2, c3, c4, c5, c6⟩ := hL.1.cells j hlt
        have hjB : j < Bs.length := by rw [hL.2.1]; exact hlt
        have hbn := (hL.2.2 j hlt hjB).len
        have hlen := (hL.2.2 j hlt hjB).1.len
        have hst := take_flat Bs j hjB
        have e1 := HN.out hn
        generalize X[j] = x at c0 c1 c2 c3 c4 c5 c6 hbn
        rw [← hbn] at hlen
        have hst2 : (Bs.take (j + 1)).flatten.length = (Bs.take j).flatten.length + x.bn := by rw [hst, List.length_append, hbn]
        have HST := Lib.hid hst2
        have E1 := Lib.hid e1
        clear hst hst2 e1 hbn c0 c1 c2 c3 c4 c5 hL
        generalize x.bn = n at *
        have hd : decide ((N : Int) ≤ 131072) = true := decide_eq_true (by omega)
        by_cases hs : n ≤ 262144
        · have hm : min (n : Int) 262144 = (n : Int) := by omega
          have HH := Lib.hid hs
          go_wp2
          go_roundw
          case rel => exact ⟨j + 1, N + n, by omega, by go_num, by go_num, by omega, fun _ => by rw [HST.out, ← Nat.add_assoc, ← E1.out], HT.out⟩
          case measure => simp only [intOf]; omega
        · have hm : min (n : Int) 262144 = 262144 := by omega
          go_wp2
          go_roundw
          case rel => exact ⟨j + 1, N + 262144, by omega, by go_num, by go_num, by omega, fun h => by omega, HT.out⟩
          case measure => simp only [intOf]; omega
      · have hd : decide ((N : Int) ≤ 131072) = false := decide_eq_false (by omega)
        have hd2 : decide ((131072 : Int) < (N : Int)) = true := decide_eq_true (by omega)
        go_wp2
        go_ret
        exact ⟨true, rfl, fun h => (by cases h), HT.out⟩
    · obtain rfl : j = X.length := by omega
      by_cases hn : N ≤ 131072
      · have hd2 : decide ((131072 : Int) < (N : Int)) = false := decide_eq_false (by omega)
        have e1 := HN.out hn
        rw [show Bs.take X.length = Bs by rw [← H.out.2.1]; exact List.take_length] at e1
        have E1 := Lib.hid e1
        clear e1
        by_cases hx : X.length ≤ 2000
        · have hd3 : decide ((2000 : Int) < (X.length : Int)) = false := decide_eq_false (by omega)
          go_wp2
          go_ret
          exact ⟨false, rfl, fun _ => ⟨hx, by have := E1.out; omega⟩, HT.out⟩
        · have hd3 : decide ((2000 : Int) < (X.length : Int)) = true := decide_eq_true (by omega)
          go_wp2
          go_ret
          exact ⟨true, rfl, fun h => (by cases h), HT.out⟩
      · have hd2 : decide ((131072 : Int) < (N : Int)) = true := decide_eq_true (by omega)
        go_wp2
        go_ret
        exact ⟨true, rfl, fun h => (by cases h), HT.out⟩

/-! ## pieces that are alike -/
def alikeX (X Y : List PD) : Prop := Y.length = X.length ∧ ∀ i (hi : i < X.length) (hi' : i < Y.length), (Y[i]'hi').s = (X[i]'hi).s ∧ (Y[i]'hi').n = (X[i]'hi).n ∧ (Y[i]'hi').u = (X[i]'hi).u ∧ (Y[i]'hi').f = (X[i]'hi).f ∧ (Y[i]'hi').l = (X[i]'hi).l ∧ (Y[i]'hi').bn = (X[i]'hi).bn
theorem alikeX.refl (X : List PD) : alikeX X X := ⟨rfl, fun i hi hi' => ⟨rfl, rfl, rfl, rfl, rfl, rfl⟩⟩
theorem whole_alike {X Y : List PD} (h : alikeX X Y) : whole X → whole Y := by
  rintro ⟨h0, hw⟩
  have h0' : 0 < Y.length := by rw [h.1]; exact h0
  refine ⟨h0', fun j hj => ?_⟩
  have hj' : j < X.length := by rw [← h.1]; exact hj
  have e := hw j hj'
  obtain ⟨a1, a2, a3, a4, a5, a6⟩ := h.2 j hj' hj
  obtain ⟨b1, b2, b3, _⟩ := h.2 0 h0 h0'
  exact ⟨by rw [a4]; exact e.f, by rw [a5, h.1]; exact e.l, by rw [a6]; exact e.b, by rw [a1, b1]; exact e.s, by rw [a2, b2]; exact e.n, by rw [a3, b3]; exact e.u⟩
theorem alikeX.symm {X Y : List PD} (h : alikeX X Y) : alikeX Y X := ⟨h.1.symm, fun i hi hi' => by
  obtain ⟨a1, a2, a3, a4, a5, a6⟩ := h.2 i hi' hi
  exact ⟨a1.symm, a2.symm, a3.symm, a4.symm, a5.symm, a6.symm⟩⟩
/-- What Join leaves. -/
def JoinOut (S : Int) (U : Bool) (B : List Int) (b : Bool) (w : World) (e : Ending) (w' : World) : Prop :=
  ∃ a c, e = .returned (.tuple #[.agg #[.int .u16 S, .bool U, .slice a B.length c], .bool b]) ∧ w'.ownsRow w.heap.size 5 1 (.slice a B.length c) B.length (flat cB B) ∧ turned w w' []
theorem flatten_bytes {Bs : List (List Int)} (h : ∀ B, B ∈ Bs → bytes B) : bytes Bs.flatten := by
  intro x hx
  obtain ⟨B, hB, hx⟩ := List.mem_flatten.1 hx
  exact h B hB x hx
theorem LiesF.bytes {w : World} {v : Value} {X : List PD} {Bs : List (List Int)} (h : LiesF w v X Bs) : ∀ B, B ∈ Bs → bytes B := by
  intro B hB
  obtain ⟨i, hi, rfl⟩ := List.getElem_of_mem hB
  exact (h.2.2 i (by rw [← h.2.1]; exact hi) hi).2
/-- All rows of pieces that are alike are joined alike. -/
theorem join_any (X : List PD) (Bs : List (List Int)) (hX : X.length ≤ 100000) (hT : Bs.flatten.length ≤ 1048576) (hb : ∀ B, B ∈ Bs → bytes B) :
    ∃ S U B b, bytes B ∧ B.length ≤ 1048576 ∧ ∀ Y, alikeX X Y → ∀ w v, LiesF w v Y Bs → Calls Try.prog 20 #[v] w (JoinOut S U B b w) := by
  by_cases h : whole X
  · obtain ⟨h0, hw⟩ := id h
    refine ⟨(X[0]'h0).s, !(X[0]'h0).u, Bs.flatten, true, flatten_bytes hb, hT, fun Y hY w v hl => ?_⟩
    have h0' : 0 < Y.length := by rw [hY.1]; exact h0
    obtain ⟨b1, b2, b3, _⟩ := hY.2 0 h0 h0'
    refine (fjoin_yes v Y Bs w hl (by rw [hY.1]; exact hX) hT (whole_alike hY h) _ _ h0' b1 b3).mono ?_
    rintro e w' ⟨a, c, rfl, hr, t⟩
    exact ⟨a, c, rfl, hr, t⟩
  · refine ⟨0, false, [], false, fun x hx => (by cases hx), by simp, fun Y hY w v hl => ?_⟩
    refine (fjoin_no v Y Bs w hl (by rw [hY.1]; exact hX) hT (fun g => h (whole_alike hY.symm g))).mono ?_
    rintro e w' ⟨rfl, t⟩
    exact ⟨none, 0, rfl, World.ownsRow_nil _ _ _ _, t⟩
end Go.Proofs.Ytcfpgeceenkheaa
