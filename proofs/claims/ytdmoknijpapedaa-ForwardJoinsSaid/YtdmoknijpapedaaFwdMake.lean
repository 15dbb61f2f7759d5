/- What the program tells of a row of pieces. Conditions: the pieces lie in memory; at most 1000. -/
import Derived.Test.YtdmoknijpapedaaFwdFns
import Derived.Maps.OwnSet
import Derived.Maps.OwnOps
import Derived.Deep.RegionHeld3
namespace Go.Proofs.Ytdmoknijpapedaa
open Go.RowKit Go.Maps Go.Deep
set_option linter.unusedVariables false
set_option linter.unusedSimpArgs false

/-- Pieces in memory. -/
def LiesD (w : World) (v : Value) (X : List PD) : Prop := Lies w 7 v X.length (flat cPD X) ∧ ∀ x, x ∈ X → x.ok
theorem LiesD.cells {w : World} {a : Option Addr} {n cap : Nat} {X : List PD} (h : LiesD w (.slice a n cap) X) (j : Nat) (hj : j < X.length) : ∃ b off, a = some ⟨b, off, none⟩ ∧ b < w.heap.size ∧
    w.cell? ⟨b, off + j * 7, none⟩ = some (.int .u32 (X[j]'hj).t) ∧ w.cell? ⟨b, off + j * 7 + 1, none⟩ = some (.int .u16 (X[j]'hj).s) ∧ w.cell? ⟨b, off + j * 7 + 2, none⟩ = some (.int .u16 (X[j]'hj).n) ∧ w.cell? ⟨b, off + j * 7 + 3, none⟩ = some (.bool (X[j]'hj).u) ∧ w.cell? ⟨b, off + j * 7 + 4, none⟩ = some (.bool (X[j]'hj).f) ∧ w.cell? ⟨b, off + j * 7 + 5, none⟩ = some (.bool (X[j]'hj).l) ∧ w.cell? ⟨b, off + j * 7 + 6, none⟩ = some (.slice (X[j]'hj).ba (X[j]'hj).bn (X[j]'hj).bc) := by
  obtain ⟨⟨_, a', cap', e, _, _, hc⟩, _⟩ := h
  cases e
  obtain ⟨b, off, rfl, hb, hcell⟩ := hc (by omega)
  have g : ∀ i, i < 7 → w.cell? ⟨b, off + j * 7 + i, none⟩ = (cPD (X[j]'hj))[i]? := fun i hi => by
    have e := flat_at cPD_len X j hj i hi
    have hlt : i < (cPD (X[j]'hj)).length := by rw [cPD_len]; exact hi
    rw [List.getElem?_eq_getElem hlt] at e ⊢
    rw [Nat.add_assoc]
    exact hcell _ _ e
  exact ⟨b, off, rfl, hb, g 0 (by omega), g 1 (by omega), g 2 (by omega), g 3 (by omega), g 4 (by omega), g 5 (by omega), g 6 (by omega)⟩
theorem LiesD.none_ {w w' : World} {v : Value} {X : List PD} (h : LiesD w v X) (t : turned w w' []) : LiesD w' v X := ⟨h.1.none_ t, h.2⟩

def noRow : Value := .tuple #[.agg #[.int .u32 0, .slice none 0 0], .bool false]
def Told (w : World) (cum : Int) (X : List PD) (e : Ending) (w' : World) : Prop :=
  ∃ sv, e = .returned (.tuple #[.agg #[.int .u32 (lastT X), sv], .bool true]) ∧ w'.ownsRow w.heap.size 41 2 sv (told X).length (flat cSk (told X)) ∧ turned w w' []
theorem ahd_row {cum : Int} {X : List PD} {j : Nat} (hj : j < X.length) (hX : X.length ≤ 1000) (hok : ∀ x, x ∈ X → x.ok) (hc : 0 ≤ cum ∧ cum < 4294967296) :
    (ahd 4294967296 cum (X[j]'hj).t != (j : Int) + 1) = true ↔ ¬ (X[j]'hj).t = (cum + 1 + (j : Int)) % 4294967296 := by
  have h := hok _ (List.getElem_mem hj)
  have h1 := h.t0
  have h2 := h.t1
  simp only [ahd, bne_iff_ne, ne_eq]
  omega
def ORel (w : World) (cum : Int) (X : List PD) (i : Value) (wr : World) : Prop :=
  turned w wr [] ∧ obj wr w.heap.size 27 [.int .u32 0, .slice none 0 0] ∧ ∃ j : Nat, j ≤ X.length ∧ i = .int .i64 (j : Int) ∧ ∀ t (ht : t < X.length), t < j → (X[t]'ht).t = (cum + 1 + (t : Int)) % 4294967296

set_option maxRecDepth 100000 in
set_option maxHeartbeats 4000000 in
theorem make_no (cum : Int) (v : Value) (X : List PD) (w : World) (hc : 0 ≤ cum ∧ cum < 4294967296) (h : LiesD w v X) (hX : X.length ≤ 1000) (hr : ¬ isRow cum X) :
    Calls Try.prog 9 #[.int .u32 cum, v] w fun e w' => e = .returned noRow ∧ turned w w' [] := by
  obtain ⟨a, cap, rfl, hc1, hc2⟩ := h.1.form
  have H := Lib.hid h
  have HR := Lib.hid hr
  have HC := Lib.hid hc
  clear h hr hc
  unfold noRow
  go_enter Try.func9, Try.ntmps9
  go_wp2
  go_loopw [16] (fun i wr => ORel w cum X i wr) (fun i _ => X.length - (intOf i).toNat)
  case atStart => exact ⟨turned_alloc (turned_refl w []) _, obj.new w 27 [.int .u32 0, .slice none 0 0], 0, Nat.zero_le _, rfl, fun t ht h => absurd h (Nat.not_lt_zero t)⟩
  case round =>
    obtain ⟨tw, ow, j, hj, rfl, hall⟩ := hrel
    have HALL := Lib.hid hall
    have TW := Lib.hid tw
    have OW := Lib.hid ow
    clear hall tw ow
    by_cases hlt : j < X.length
    · obtain ⟨b, off, rfl, hb, c0, c1, c2, c3, c4, c5, c6⟩ := (H.out.none_ TW.out).cells j hlt
      have hq := ahd_row hlt hX H.out.2 HC.out
      obtain ⟨x, hx⟩ : ∃ x, X[j]'hlt = x := ⟨_, rfl⟩
      rw [hx] at c0 c1 c2 c3 c4 c5 c6 hq
      have HXJ := Lib.hid hx
      clear hx
      by_cases hk : x.t = (cum + 1 + (j : Int)) % 4294967296
      · have hb1 : (ahd 4294967296 cum x.t != (j : Int) + 1) = false := by
          cases hh : (ahd 4294967296 cum x.t != (j : Int) + 1) with
          | false => rfl
          | true => exact absurd hk (hq.1 hh)
        clear hq
        have HK := Lib.hid hk
        clear hk
        go_wp2_with (go_at_call 19; refine (ahead_u32 _ _ _).mono ?_; rintro e w' ⟨rfl, rfl⟩)
        go_roundw
        case rel =>
          refine ⟨turned_alloc TW.out _, OW.out.alloc _, j + 1, by omega, by go_num, fun t ht h => ?_⟩
          by_cases e : t = j
          · subst e; rw [HXJ.out]; exact HK.out
          · exact HALL.out t ht (by omega)
        case measure => simp only [intOf]; omega
      · have hb1 := hq.2 hk
        clear hq hk
        have oa := (OW.out.alloc (.cells #[.int .u32 x.t, .int .u16 x.s, .int .u16 x.n, .bool x.u, .bool x.f, .bool x.l, (.slice x.ba x.bn x.bc)] 34))
        have r0 := oa.cell 0 rfl
        have r1 := oa.cell 1 rfl
        have f0 := oa.free 0
        have f1 := oa.free 1
        have OA := Lib.hid oa
        clear oa
        go_wp2_with (go_at_call 19; refine (ahead_u32 _ _ _).mono ?_; rintro e w' ⟨rfl, rfl⟩)
        refine bodyPost_ret (v := .tuple #[.agg #[.int .u32 0, .slice none 0 0], .bool false]) (by simp [results, Try.results9, go_sem, *]) rfl ⟨rfl, ?_⟩
        exact turned_setNew (turned_setNew (turned_alloc TW.out _) (Nat.le_refl _) _) (Nat.le_refl _) _
    · have r0 := OW.out.cell 0 rfl
      have r1 := OW.out.cell 1 rfl
      have f0 := OW.out.free 0
      have f1 := OW.out.free 1
      have hX0 : X.length = 0 := by
        rcases Nat.eq_zero_or_pos X.length with h | h
        · exact h
        · exact absurd ⟨by intro e; subst e; simp at h, fun t ht => HALL.out t ht (by omega)⟩ HR.out
      rw [hX0]
      have hj0 : j = 0 := by omega
      subst hj0
      go_wp2
      refine bodyPost_ret (v := .tuple #[.agg #[.int .u32 0, .slice none 0 0], .bool false]) (by simp [results, Try.results9, go_sem, *]) rfl ⟨rfl, ?_⟩
      exact turned_setNew (turned_setNew TW.out (Nat.le_refl _) _) (Nat.le_refl _) _
end Go.Proofs.Ytdmoknijpapedaa
