/- The same pieces read the same. Conditions: named. -/
import Derived.Test.YtcfpgeceenkheaaFragLarge
namespace Go.Proofs.Ytcfpgeceenkheaa
open Go.RowKit Go.Deep
set_option linter.unusedVariables false
set_option linter.unusedSimpArgs false

def aPD (x : PD) : Value := .agg #[.int .u32 x.t, .int .u16 x.s, .int .u16 x.n, .bool x.u, .bool x.f, .bool x.l, .slice x.ba x.bn x.bc]
set_option maxRecDepth 100000 in
set_option maxHeartbeats 4000000 in
theorem sameData_yes (t s n : Int) (u f l : Bool) (a b : Option Addr) (an ac bn bc : Nat) (B : List Int) (w : World) (ha : LiesB w (.slice a an ac) B) (hb : LiesB w (.slice b bn bc) B) (hB : B.length ≤ 4000000) :
    Calls Try.prog 26 #[.agg #[.int .u32 t, .int .u16 s, .int .u16 n, .bool u, .bool f, .bool l, .slice a an ac], .agg #[.int .u32 t, .int .u16 s, .int .u16 n, .bool u, .bool f, .bool l, .slice b bn bc]] w fun e w' => e = .returned (.bool true) ∧ turned w w' [] := by
  have HA := Lib.hid ha
  have HB := Lib.hid hb
  clear ha hb
  go_enter Try.func26, Try.ntmps26
  go_wp2_with fail
  have tb := turned_alloc (turned_alloc (turned_refl w []) (.cells #[.int .u32 t, .int .u16 s, .int .u16 n, .bool u, .bool f, .bool l, .slice a an ac] 38)) (.cells #[.int .u32 t, .int .u16 s, .int .u16 n, .bool u, .bool f, .bool l, .slice b bn bc] 38)
  refine (eqb_yes _ _ B _ (HA.out.none_ tb) (HB.out.none_ tb) hB).mono ?_
  rintro e w1 ⟨rfl, m, rfl⟩
  go_wp2
  go_ret
  exact ⟨rfl, turned_drewN' m tb⟩
/-- The same pieces: all but where their bytes lie. -/
def twinX (X Y : List PD) : Prop := Y.length = X.length ∧ ∀ i (hi : i < X.length) (hi' : i < Y.length), (Y[i]'hi').t = (X[i]'hi).t ∧ (Y[i]'hi').s = (X[i]'hi).s ∧ (Y[i]'hi').n = (X[i]'hi).n ∧ (Y[i]'hi').u = (X[i]'hi).u ∧ (Y[i]'hi').f = (X[i]'hi).f ∧ (Y[i]'hi').l = (X[i]'hi).l
set_option maxRecDepth 100000 in
set_option maxHeartbeats 8000000 in
theorem same_yes (v v' : Value) (X Y : List PD) (Bs : List (List Int)) (w : World) (h : LiesF w v X Bs) (h' : LiesF w v' Y Bs) (ht : twinX X Y) (hb : ∀ i (hi : i < Bs.length), (Bs[i]'hi).length ≤ 4000000) :
    Calls Try.prog 15 #[v, v'] w fun e w' => e = .returned (.bool true) ∧ turned w w' [] := by
  obtain ⟨a, ac, rfl, hc1, hc2⟩ := h.1.1.form
  obtain ⟨b, bc, rfl, hd1, hd2⟩ := h'.1.1.form
  rw [ht.1] at hd1 ⊢
  have H := Lib.hid h
  have H' := Lib.hid (show LiesF w (.slice b X.length bc) Y Bs by rw [← ht.1]; exact h')
  have HT := Lib.hid ht
  have HBL := Lib.hid hb
  have h9 : ((X.length : Int) != (X.length : Int)) = false := by simp
  clear h h' ht hb
  go_enter Try.func15, Try.ntmps15
  go_wp2_with fail
  go_loopw [5] (fun i wr => ∃ j : Nat, j ≤ X.length ∧ i = .int .i64 (j : Int) ∧ turned w wr []) (fun i _ => X.length - (intOf i).toNat)
  case atStart => exact ⟨0, Nat.zero_le _, rfl, turned_refl _ _⟩
  case round =>
    obtain ⟨j, hj, rfl, htr⟩ := hrel
    have HTR := Lib.hid htr
    clear htr
    by_cases hlt : j < X.length
    · have hjY : j < Y.length := by rw [HT.out.1]; exact hlt
      have hjB : j < Bs.length := by rw [H.out.2.1]; exact hlt
      have L1 := H.out.none_ HTR.out
      have L2 := H'.out.none_ HTR.out
      obtain ⟨b1, o1, rfl, hb1, c0, c1, c2, c3, c4, c5, c6⟩ := L1.1.cells j hlt
      obtain ⟨b2, o2, rfl, hb2, d0, d1, d2, d3, d4, d5, d6⟩ := L2.1.cells j hjY
      obtain ⟨e0, e1, e2, e3, e4, e5⟩ := HT.out.2 j hlt hjY
      have LB1 := Lib.hid (L1.2.2 j hlt hjB)
      have LB2 := Lib.hid (L2.2.2 j hjY hjB)
      have hbl := HBL.out j hjB
      rw [e0] at d0; rw [e1] at d1; rw [e2] at d2; rw [e3] at d3; rw [e4] at d4; rw [e5] at d5
      clear e0 e1 e2 e3 e4 e5 L1 L2
      generalize X[j] = x at *
      generalize Y[j] = y at *
      have C0 := Lib.hid c0
      have C1 := Lib.hid c1
      have C2 := Lib.hid c2
      have C3 := Lib.hid c3
      have C4 := Lib.hid c4
      have C5 := Lib.hid c5
      have C6 := Lib.hid c6
      have D0 := Lib.hid d0
      have D1 := Lib.hid d1
      have D2 := Lib.hid d2
      have D3 := Lib.hid d3
      have D4 := Lib.hid d4
      have D5 := Lib.hid d5
      have D6 := Lib.hid d6
      go_wp2_with fail
      go_region_held3 (fun w' => w'.cell? ⟨b1, o1 + j * 7, none⟩ = some (.int .u32 x.t) ∧ w'.cell? ⟨b1, o1 + j * 7 + 1, none⟩ = some (.int .u16 x.s) ∧ w'.cell? ⟨b1, o1 + j * 7 + 2, none⟩ = some (.int .u16 x.n) ∧ w'.cell? ⟨b1, o1 + j * 7 + 3, none⟩ = some (.bool x.u) ∧ w'.cell? ⟨b1, o1 + j * 7 + 4, none⟩ = some (.bool x.f) ∧ w'.cell? ⟨b1, o1 + j * 7 + 5, none⟩ = some (.bool x.l) ∧ w'.cell? ⟨b1, o1 + j * 7 + 6, none⟩ = some (.slice x.ba x.bn x.bc) ∧ w'.cell? ⟨b2, o2 + j * 7, none⟩ = some (.int .u32 x.t) ∧ w'.cell? ⟨b2, o2 + j * 7 + 1, none⟩ = some (.int .u16 x.s) ∧ w'.cell? ⟨b2, o2 + j * 7 + 2, none⟩ = some (.int .u16 x.n) ∧ w'.cell? ⟨b2, o2 + j * 7 + 3, none⟩ = some (.bool x.u) ∧ w'.cell? ⟨b2, o2 + j * 7 + 4, none⟩ = some (.bool x.f) ∧ w'.cell? ⟨b2, o2 + j * 7 + 5, none⟩ = some (.bool x.l) ∧ w'.cell? ⟨b2, o2 + j * 7 + 6, none⟩ = some (.slice y.ba y.bn y.bc)) (first | (simp [go_sem, *]; done) | assumption) (first
        | (go_at_call 26; ((refine (sameData_yes x.t x.s x.n x.u x.f x.l x.ba y.ba x.bn x.bc y.bn y.bc _ _ (LB1.out.none_ (turned_drew _ [])) (LB2.out.none_ (turned_drew _ [])) hbl).mono ?_)); rintro e w4 ⟨rfl, t4⟩; have T4 := Lib.hid (turned_trans (turned_drew wr []) t4); clear t4 c0 c1 c2 c3 c4 c5 c6 d0 d1 d2 d3 d4 d5 d6; have c0 := turned_cell T4.out C0.out (by simp); have c1 := turned_cell T4.out C1.out (by simp); have c2 := turned_cell T4.out C2.out (by simp); have c3 := turned_cell T4.out C3.out (by simp); have c4 := turned_cell T4.out C4.out (by simp); have c5 := turned_cell T4.out C5.out (by simp); have c6 := turned_cell T4.out C6.out (by simp); have d0 := turned_cell T4.out D0.out (by simp); have d1 := turned_cell T4.out D1.out (by simp); have d2 := turned_cell T4.out D2.out (by simp); have d3 := turned_cell T4.out D3.out (by simp); have d4 := turned_cell T4.out D4.out (by simp); have d5 := turned_cell T4.out D5.out (by simp); have d6 := turned_cell T4.out D6.out (by simp)))
      go_wp2_with fail
      go_roundw
      case rel => exact ⟨j + 1, by omega, by go_num, turned_trans HTR.out T4.out⟩
      case measure => simp only [intOf]; omega
    · go_wp2_with fail
      go_ret
      exact ⟨rfl, HTR.out⟩
end Go.Proofs.Ytcfpgeceenkheaa
