/- Kept, and the document's Cut. Conditions: the bytes lie in memory. -/
import Derived.Test.YtcfpgeceenkheaaFragApart2
import Derived.Test.YtcfpgeceenkheaaFragSame
namespace Go.Proofs.Ytcfpgeceenkheaa
open Go.RowKit Go.Deep
set_option linter.unusedVariables false
set_option linter.unusedSimpArgs false

section
variable {P : Program} {ops : Array Oper} {Q : Exit → Act → World → Prop}
/-- A region that draws its order, whose last operation alone ends what S says. -/
theorem region_till {id : Nat} {a : Act} {w : World} (S : World → Prop) (last : Nat) (hm : P.follows .mixedOrders = true) (wd : World) (hwd : wd = w.drew) (hS : S wd)
    (h : wpTill P .any ops Q S last ops.size (Array.replicate ops.size false) a wd) : (Code.region id ops true).wp P Q a w := by
  subst hwd
  exact wp_region_any hm (any_of_till _ _ _ _ h)
end
theorem marked_take (B : List Int) : (marked B).take B.length = B := by unfold marked; exact List.take_left
theorem marked_in {B : List Int} (h : ∀ x, x ∈ B → 0 ≤ x ∧ x < 256) : ∀ x, x ∈ marked B → 0 ≤ x ∧ x < 256 := by
  intro x hx
  rcases List.mem_append.1 hx with hx | hx
  · exact h x hx
  · rw [List.mem_replicate] at hx; omega
theorem marked_len (B : List Int) : (marked B).length = B.length + 16 := by simp [marked]
set_option maxRecDepth 100000 in
set_option maxHeartbeats 4000000 in
theorem kept_ (g : Nat) (B : List Int) (mv : Value) (w : World) (ho : obj w g 5 (flat cB (marked B))) (hv : LiesB w mv B) (hB : B.length ≤ 2097152) :
    Calls Try.prog 16 #[.slice (some ⟨g, 0, none⟩) B.length (B.length + 16), mv] w fun e w' => e = .returned (.bool true) ∧ turned w w' [] := by
  have hin := ho.liesB (n := B.length) (c := B.length + 16) (by rw [marked_len]; omega) (by omega) (by omega) (marked_in hv.2)
  rw [marked_take] at hin
  have HEQ := Lib.hid (eqb_yes _ _ B w hin hv (by omega))
  have HM := Lib.hid (show ∀ k, k < 16 → w.cell? ⟨g, B.length + k, none⟩ = some (.int .u8 90) from fun k hk => by
    have e : (marked B)[B.length + k]'(by rw [marked_len]; omega) = 90 := by
      unfold marked
      rw [List.getElem_append_right (Nat.le_add_right _ _)]
      exact List.getElem_replicate _
    rw [ho.byte (B.length + k) (by rw [marked_len]; omega), e])
  obtain ⟨a, cap, rfl, hc1, hc2⟩ := hv.1.form
  obtain ⟨n, hn⟩ : ∃ n, B.length = n := ⟨_, rfl⟩
  rw [hn] at HEQ HM hB hc1 ⊢
  obtain ⟨N, hN⟩ : ∃ N, n + 16 = N := ⟨_, rfl⟩
  rw [hN] at HEQ ⊢
  have HN := Lib.hid hN
  have s1 : IntKind.i64.wrap ((n : Int) + 16) = (N : Int) := by rw [IntWalk.i64_in _ (by omega)]; omega
  have z0 : (0 : Int) ≤ (n : Int) := by omega
  have z1 : (n : Int) ≤ (N : Int) := by omega
  have z2 : n ≤ N := by omega
  have z3 : ¬ N = n := by omega
  have z4 : ¬ N ≤ n := by omega
  have z5 : N - n = 16 := by omega
  have z6 : (0 : Int) ≤ (N : Int) := by omega
  clear ho hv hin hn hN
  go_enter Try.func16, Try.ntmps16
  go_wp2_with fail
  refine HEQ.out.mono ?_
  rintro e w1 ⟨rfl, p, rfl⟩
  go_wp2_with fail
  go_loopw [6] (fun iv wr => ∃ i : Nat, i ≤ 16 ∧ iv = .int .i64 (i : Int) ∧ wr = w.drewN p) (fun iv _ => 16 - (intOf iv).toNat)
  case atStart => exact ⟨0, by omega, rfl, by first | rfl | trivial⟩
  case round =>
    obtain ⟨i, hi, rfl, rfl⟩ := hrel
    by_cases hlt : i < 16
    · have c0 := HM.out i hlt
      have hii : (i : Int) < 16 := by omega
      have hi0 : (0 : Int) ≤ (i : Int) := by omega
      go_wp2_with fail
      go_roundw
      case rel => exact ⟨i + 1, by omega, by go_num, by first | rfl | trivial⟩
      case measure => simp only [intOf]; omega
    · have hi16 : i = 16 := by omega
      subst hi16
      go_wp2_with fail
      go_ret
      exact ⟨rfl, turned_drewN _ _ _⟩
/-- What the drawn region of the document's Cut reads. -/
def RcS (n0 : Nat) (s : Int) (o : Bool) (W : World) : Prop := W.cell? ⟨n0, 0, none⟩ = some (.int .u16 s) ∧ W.cell? ⟨n0, 1, none⟩ = some (.bool o)
def slN : Value → Nat
  | .slice _ n _ => n
  | _ => 0
/-- The document's Cut behind j pieces. -/
structure RcI (W wr : World) (s own : Int) (o : Bool) (v : Value) (B : List Int) (most j : Nat) (rv lv : Value) (Y : List PD) : Prop where
  l : LiesB W lv (B.drop (min (j * most) B.length))
  r : wr.ownsRow W.heap.size 38 7 rv Y.length (flat cPD Y)
  n : Y.length = j
  b : ∀ i (hi : i < Y.length), wr.ownsRow W.heap.size 5 1 (.slice (Y[i]'hi).ba (Y[i]'hi).bn (Y[i]'hi).bc) (bit B most i).length (flat cB (bit B most i))
  sh : ∀ i (hi : i < Y.length), Y[i]'hi = ⟨0, s, own, !o, decide (i = 0), decide (min ((i + 1) * most) B.length = B.length), (Y[i]'hi).ba, (Y[i]'hi).bn, (Y[i]'hi).bc⟩
  x : obj wr W.heap.size 25 [.int .u16 s, .bool o, v]
  t : turned W wr []
theorem RcI.past {W w w' : World} {s own : Int} {o : Bool} {v : Value} {B : List Int} {most j : Nat} {rv lv : Value} {Y : List PD} (h : RcI W w s own o v B most j rv lv Y) (t : turned w w' []) : RcI W w' s own o v B most j rv lv Y :=
  ⟨h.l, row_past h.r t (by simp), h.n, fun i hi => row_past (h.b i hi) t (by simp), h.sh, h.x.past t (by simp), turned_trans h.t t⟩
theorem turned_narrow' {a b c : World} {L : List Nat} (h : turned a b []) (t : turned b c L) (hL : ∀ k, k ∈ L → a.heap.size ≤ k) : turned a c [] :=
  ⟨t.1.trans h.1, t.2.1.trans h.2.1, t.2.2.1.trans h.2.2.1, Nat.le_trans h.2.2.2.1 t.2.2.2.1, fun i hi _ => (t.2.2.2.2 i (Nat.lt_of_lt_of_le hi h.2.2.2.1) (fun e => by have := hL i e; omega)).trans (h.2.2.2.2 i hi (by simp))⟩
/-- One piece more. -/
theorem RcI.snoc {W w1 w' : World} {s own : Int} {o : Bool} {v : Value} {B : List Int} {most j : Nat} {rv rv' lv lv' : Value} {Y : List PD} {a : Option Addr} {k c : Nat} (h : RcI W w1 s own o v B most j rv lv Y) (hb : w1.ownsRow W.heap.size 5 1 (.slice a k c) (bit B most j).length (flat cB (bit B most j)))
    (g : w1.grownBy w' rv.ownBlock) (hr : w'.ownsRow W.heap.size 38 7 rv' (Y.length + 1) (flat cPD Y ++ flat cPD [⟨0, s, own, !o, decide (j = 0), decide (min ((j + 1) * most) B.length = B.length), a, k, c⟩]))
    (hl : LiesB W lv' (B.drop (min ((j + 1) * most) B.length))) : RcI W w' s own o v B most (j + 1) rv' lv' (Y ++ [⟨0, s, own, !o, decide (j = 0), decide (min ((j + 1) * most) B.length = B.length), a, k, c⟩]) := by
  have t : turned w1 w' rv.ownBlock.toList := turned_grown (turned_refl _ _) g (fun k e => .inl (Option.mem_toList.2 e))
  have kb : ∀ {u : Value} {C : List Int}, w1.ownsRow W.heap.size 5 1 u C.length (flat cB C) → w'.ownsRow W.heap.size 5 1 u C.length (flat cB C) := fun hy => row_past hy t (fun q hq e => rows_ne hy h.r (by decide) q hq (Option.mem_toList.1 e))
  refine ⟨hl, by rw [List.length_append, List.length_singleton, flat_app]; exact hr, by simp [h.n], fun i hi => ?_, fun i hi => ?_, h.x.past t (fun e => row_ne h.r h.x (by decide) (Option.mem_toList.1 e)), turned_narrow' h.t t (fun q hq => (row_lt h.r q (Option.mem_toList.1 hq)).1)⟩
  · rcases Nat.lt_or_ge i Y.length with g1 | g1
    · rw [List.getElem_append_left g1]
      exact kb (h.b i g1)
    · have e : i = j := by simp at hi; have := h.n; omega
      subst e
      rw [List.getElem_append_right g1]
      simp only [h.n, Nat.sub_self, List.getElem_singleton]
      exact kb hb
  · rcases Nat.lt_or_ge i Y.length with g1 | g1
    · rw [List.getElem_append_left g1]
      exact h.sh i g1
    · have e : i = j := by simp at hi; have := h.n; omega
      subst e
      rw [List.getElem_append_right g1]
      simp only [h.n, Nat.sub_self, List.getElem_singleton]
theorem bit_take {B : List Int} {most j : Nat} : bit B most j = (B.drop (j * most)).take (min most (B.length - j * most)) := by
  unfold bit
  rcases Nat.le_total most (B.length - j * most) with h | h
  · rw [Nat.min_eq_left h]
  · rw [Nat.min_eq_right h, List.take_of_length_le (by simp; omega), List.take_of_length_le (by simp)]
def RGood (w : World) (s own : Int) (o : Bool) (v : Value) (B : List Int) (most : Nat) (e : Ending) (w' : World) : Prop := ∃ rv lv j Y, e = .returned (.tuple #[rv, .int .i64 0]) ∧ RcI w w' s own o v B most j rv lv Y ∧ B.length ≤ j * most ∧ (∀ i, i < j → i * most < B.length)
theorem copyb_k (v : Value) (B : List Int) (k : Nat) (w : World) (hk : B.length = k) (hv : LiesB w v B) (hB : k ≤ 4000000) :
    Calls Try.prog 19 #[v] w fun e w' => ∃ a c, e = .returned (.slice a k c) ∧ w'.ownsRow w.heap.size 5 1 (.slice a k c) B.length (flat cB B) ∧ turned w w' [] := by
  subst hk
  exact copyb v B w hv hB
set_option maxRecDepth 100000 in
set_option maxHeartbeats 4000000 in
theorem rcut_good (s : Int) (o : Bool) (ssn : Int) (v : Value) (B : List Int) (most : Nat) (w : World) (hv : LiesB w v B) (h0 : 1 ≤ B.length) (h1 : B.length ≤ 1048576) (hm : 1 ≤ most) (hm2 : most ≤ 9223372036854775807) (hs : 0 ≤ s ∧ s < 65536) (hn : 0 ≤ ssn ∧ ssn < 65536) :
    Calls Try.prog 14 #[.agg #[.int .u16 s, .bool o, v], .int .u16 ssn, .int .i64 (most : Int)] w (RGood w s (bif o then ssn else 0) o v B most) := by
  obtain ⟨a, cap, rfl, hc1, hc2⟩ := hv.1.form
  have t0 := turned_alloc (turned_refl w []) (.cells #[.int .u16 s, .bool o, .slice a B.length cap] 25)
  have oX := obj.new w 25 [.int .u16 s, .bool o, .slice a B.length cap]
  have hI : RcI w (w.alloc (.cells #[.int .u16 s, .bool o, .slice a B.length cap] 25)) s (bif o then ssn else 0) o (.slice a B.length cap) B most 0 (.slice none 0 0) (.slice a B.length cap) [] :=
    ⟨by rw [Nat.zero_mul, Nat.zero_min]; exact hv, World.ownsRow_nil _ _ _ _, rfl, fun i hi => (by cases hi), fun i hi => (by cases hi), oX, t0⟩
  obtain ⟨n, hnn⟩ : ∃ n, B.length = n := ⟨_, rfl⟩
  have d1 : decide ((most : Int) < 1) = false := decide_eq_false (by omega)
  have d2 : ((n : Int) == 0) = false := beq_eq_false_iff_ne.2 (by omega)
  have d3 : decide ((1048576 : Int) < (n : Int)) = false := decide_eq_false (by omega)
  have x1 := oX.cell 1 rfl
  have x2 := oX.cell 2 rfl
  have HI := Lib.hid hI
  have HNN := Lib.hid hnn
  rw [hnn] at h0 h1 hc1 x1 x2 HI ⊢
  obtain ⟨own, hown⟩ : ∃ own, (bif o then ssn else 0) = own := ⟨_, rfl⟩
  rw [hown] at HI ⊢
  have HOWN := Lib.hid hown
  clear hv t0 oX hI hnn hown
  go_enter Try.func14, Try.ntmps14
  go_upto_if 25 with (fail)
  generalize w.alloc (.cells #[.int .u16 s, .bool o, .slice a n cap] 25) = w1 at HI x1 x2 ⊢
  go_cut [1] (fun t wz => t = .int .u16 own ∧ wz = w1)
  case first =>
    have hwn := HOWN.out
    cases o with
    | true =>
      simp only [cond_true] at hwn
      have HW := Lib.hid hwn
      clear hwn
      go_wp2_with fail
      go_meet
      exact ⟨by rw [HW.out], rfl⟩
    | false =>
      simp only [cond_false] at hwn
      have HW := Lib.hid hwn
      clear hwn
      go_wp2_with fail
      go_meet
      exact ⟨by rw [← HW.out], rfl⟩
  case rest =>
  obtain ⟨rfl, rfl⟩ := hcut
  go_wp2_with fail
  go_loopw [8, 9] (fun rv lv wr => ∃ (j : Nat) (Y : List PD), RcI w wr s own o (.slice a n cap) B most j rv lv Y ∧ j ≤ n ∧ ∀ i, i < j → i * most < n) (fun _ lv _ => slN lv)
  case atStart => exact ⟨0, [], HI.out, Nat.zero_le _, by intro i hi; omega⟩
  case round =>
    obtain ⟨j, Y, hI2, hjn, hall⟩ := hrel
    have HI2 := Lib.hid hI2
    have HALL := Lib.hid hall
    obtain ⟨la, lc, rfl, hl1, hl2⟩ := hI2.l.1.form
    obtain ⟨ra, rc, rfl, _, _, _⟩ := row_form hI2.r
    obtain ⟨ll, hll⟩ : ∃ ll, (B.drop (min (j * most) B.length)).length = ll := ⟨_, rfl⟩
    have hll2 : ll = n - j * most := by rw [← hll, List.length_drop, HNN.out]; omega
    rw [hll] at hl1 HI2 ⊢
    have HLL := Lib.hid hll
    have HL2 := Lib.hid hll2
    have HYN := Lib.hid hI2.n
    clear hI2 hall hll
    by_cases hpos : 0 < ll
    · have hjm : j * most < n := by omega
      obtain ⟨lb, lo, rfl, _, _⟩ := (show LiesB w (.slice la ll lc) (B.drop (min (j * most) B.length)) from HI2.out.l).cell 0 (by rw [HLL.out]; exact hpos)
      obtain ⟨k, hk⟩ : ∃ k, k = min most ll := ⟨_, rfl⟩
      have HK := Lib.hid hk
      have hk1 : 1 ≤ k := by omega
      have hk4 : k ≤ 4000000 := by omega
      have hkl : k ≤ ll := by omega
      have hlp : (0 : Int) < (ll : Int) := by omega
      have x0 := HI2.out.x.cell 0 rfl
      have x1 := HI2.out.x.cell 1 rfl
      have hbt : bit B most j = (B.drop (j * most)).take k := by rw [bit_take, HNN.out, hk, hll2]
      have hdr : B.drop (min (j * most) B.length) = B.drop (j * most) := by rw [HNN.out, Nat.min_eq_left (by omega)]
      have hbl : (bit B most j).length = k := by rw [hbt, List.length_take, List.length_drop, HNN.out]; omega
      have HBL := Lib.hid hbl
      have HBT := Lib.hid hbt
      have HDR := Lib.hid hdr
      clear hk hll2 hbt hdr hbl
      go_upto_region 10 with (fail)
      go_cut [10] (fun t wz => t = .int .i64 (k : Int) ∧ wz = wr)
      case first =>
        have hk := HK.out
        rcases Nat.lt_or_ge ll most with hle | hle
        · have hkk : k = ll := by omega
          have dm : decide ((ll : Int) < (most : Int)) = true := decide_eq_true (by omega)
          subst hkk
          clear hk
          go_wp2_with fail
          all_goals go_meet
          all_goals exact ⟨congrArg (Value.int .i64) (by omega), rfl⟩
        · have hkk : k = most := by omega
          have dm : decide ((ll : Int) < (most : Int)) = false := decide_eq_false (by omega)
          subst hkk
          clear hk
          go_wp2_with fail
          all_goals go_meet
          all_goals exact ⟨congrArg (Value.int .i64) (by omega), rfl⟩
      case rest =>
      obtain ⟨rfl, rfl⟩ := hcut
      obtain ⟨w2, hw2⟩ : ∃ w2, w2 = wc := ⟨_, rfl⟩
      subst hw2
      obtain ⟨wd, hwd⟩ : ∃ wd, wd = w2.drew := ⟨_, rfl⟩
      have ID := Lib.hid (show RcI w wd s own o _ B most j _ _ Y from hwd ▸ HI2.out.past (turned_drew w2 []))
      have HWD := Lib.hid hwd
      have hS0 : RcS w.heap.size s o wd := ⟨ID.out.x.cell 0 rfl, ID.out.x.cell 1 rfl⟩
      have e44 : ((Y.length : Int) == 0) = decide (j = 0) := by rw [HYN.out, Bool.eq_iff_iff, beq_iff_eq, decide_eq_true_eq]; omega
      have e48 : ((k : Int) == (ll : Int)) = decide (min ((j + 1) * most) B.length = B.length) := by
        have h1 := HK.out
        have h2 := HL2.out
        rw [Bool.eq_iff_iff, beq_iff_eq, decide_eq_true_eq, HNN.out, Nat.add_mul, Nat.one_mul]
        omega
      have hsl1 : (0 : Int) ≤ (k : Int) := by omega
      have hsl2 : (k : Int) ≤ (lc : Int) := by omega
      have hsl3 : k ≤ lc := by omega
      have hsub := liesB_sub (show LiesB wd (.slice (some ⟨lb, lo, none⟩) ll lc) (B.drop (min (j * most) B.length)) from (show LiesB w (.slice (some ⟨lb, lo, none⟩) ll lc) (B.drop (min (j * most) B.length)) from ID.out.l).none_ ID.out.t) 0 k lc (by rw [HLL.out]; omega) hsl3 hl2 (some ⟨lb, lo, none⟩) (fun b off e => by cases e; rfl)
      rw [List.drop_zero, HDR.out, ← HBT.out] at hsub
      have HSUB := Lib.hid hsub
      obtain ⟨i0, hi0, hz0, hz1, hz2⟩ := info_parts infoPD
      clear hwd hsub x0 x1
      go_upto_region 11 with (fail)
      refine region_till (RcS w.heap.size s o) 21 (by kernel_rfl) wd HWD.out hS0 ?_
      refine till_take (i := 0) (v := ?_) rfl (by kernel_rfl) (by kernel_rfl) (by kernel_rfl) (by kernel_rfl) (fun _ _ _ h => h) (Or.inl ⟨by rfl, ?_⟩) (by assumption) ?_
      rotate_left
      · intro wz hSw
        obtain ⟨z0, z1⟩ := hSw
        go_simp
        (try with_reducible rfl)
      (try simp only [List.getElem_toArray, List.getElem_cons_succ, List.getElem_cons_zero, Act.put, List.setIfInBounds_toArray, List.set_cons_zero, List.set_cons_succ])
      refine till_take (i := 1) (v := ?_) rfl (by kernel_rfl) (by kernel_rfl) (by kernel_rfl) (by kernel_rfl) (fun _ _ _ h => h) (Or.inl ⟨by rfl, ?_⟩) (by assumption) ?_
      rotate_left
      · intro wz hSw
        obtain ⟨z0, z1⟩ := hSw
        go_simp
        (try with_reducible rfl)
      (try simp only [List.getElem_toArray, List.getElem_cons_succ, List.getElem_cons_zero, Act.put, List.setIfInBounds_toArray, List.set_cons_zero, List.set_cons_succ])
      refine till_take (i := 2) (v := ?_) rfl (by kernel_rfl) (by kernel_rfl) (by kernel_rfl) (by kernel_rfl) (fun _ _ _ h => h) (Or.inl ⟨by rfl, ?_⟩) (by assumption) ?_
      rotate_left
      · intro wz hSw
        obtain ⟨z0, z1⟩ := hSw
        go_simp
        (try with_reducible rfl)
      (try simp only [List.getElem_toArray, List.getElem_cons_succ, List.getElem_cons_zero, Act.put, List.setIfInBounds_toArray, List.set_cons_zero, List.set_cons_succ])
      refine till_take (i := 3) (v := ?_) rfl (by kernel_rfl) (by kernel_rfl) (by kernel_rfl) (by kernel_rfl) (fun _ _ _ h => h) (Or.inl ⟨by rfl, ?_⟩) (by assumption) ?_
      rotate_left
      · intro wz hSw
        obtain ⟨z0, z1⟩ := hSw
        go_simp
        (try with_reducible rfl)
      (try simp only [List.getElem_toArray, List.getElem_cons_succ, List.getElem_cons_zero, Act.put, List.setIfInBounds_toArray, List.set_cons_zero, List.set_cons_succ])
      refine till_take (i := 4) (v := ?_) rfl (by kernel_rfl) (by kernel_rfl) (by kernel_rfl) (by kernel_rfl) (fun _ _ _ h => h) (Or.inl ⟨by rfl, ?_⟩) (by assumption) ?_
      rotate_left
      · intro wz hSw
        obtain ⟨z0, z1⟩ := hSw
        go_simp
        (try with_reducible rfl)
      (try simp only [List.getElem_toArray, List.getElem_cons_succ, List.getElem_cons_zero, Act.put, List.setIfInBounds_toArray, List.set_cons_zero, List.set_cons_succ])
      refine till_take (i := 5) (v := ?_) rfl (by kernel_rfl) (by kernel_rfl) (by kernel_rfl) (by kernel_rfl) (fun _ _ _ h => h) (Or.inl ⟨by rfl, ?_⟩) (by assumption) ?_
      rotate_left
      · intro wz hSw
        obtain ⟨z0, z1⟩ := hSw
        go_simp
        (try with_reducible rfl)
      (try simp only [List.getElem_toArray, List.getElem_cons_succ, List.getElem_cons_zero, Act.put, List.setIfInBounds_toArray, List.set_cons_zero, List.set_cons_succ])
      refine till_take (i := 6) (v := ?_) rfl (by kernel_rfl) (by kernel_rfl) (by kernel_rfl) (by kernel_rfl) (fun _ _ _ h => h) (Or.inl ⟨by rfl, ?_⟩) (by assumption) ?_
      rotate_left
      · intro wz hSw
        obtain ⟨z0, z1⟩ := hSw
        go_simp
        (try with_reducible rfl)
      (try simp only [List.getElem_toArray, List.getElem_cons_succ, List.getElem_cons_zero, Act.put, List.setIfInBounds_toArray, List.set_cons_zero, List.set_cons_succ])
      refine till_take (i := 7) (v := ?_) rfl (by kernel_rfl) (by kernel_rfl) (by kernel_rfl) (by kernel_rfl) (fun _ _ _ h => h) (Or.inl ⟨by rfl, ?_⟩) (by assumption) ?_
      rotate_left
      · intro wz hSw
        obtain ⟨z0, z1⟩ := hSw
        go_simp
        (try with_reducible rfl)
      (try simp only [List.getElem_toArray, List.getElem_cons_succ, List.getElem_cons_zero, Act.put, List.setIfInBounds_toArray, List.set_cons_zero, List.set_cons_succ])
      refine till_take (i := 8) (v := ?_) rfl (by kernel_rfl) (by kernel_rfl) (by kernel_rfl) (by kernel_rfl) (fun _ _ _ h => h) (Or.inl ⟨by rfl, ?_⟩) (by assumption) ?_
      rotate_left
      · intro wz hSw
        obtain ⟨z0, z1⟩ := hSw
        go_simp
        (try with_reducible rfl)
      (try simp only [List.getElem_toArray, List.getElem_cons_succ, List.getElem_cons_zero, Act.put, List.setIfInBounds_toArray, List.set_cons_zero, List.set_cons_succ])
      refine till_take (i := 9) (v := ?_) rfl (by kernel_rfl) (by kernel_rfl) (by kernel_rfl) (by kernel_rfl) (fun _ _ _ h => h) (Or.inl ⟨by rfl, ?_⟩) (by assumption) ?_
      rotate_left
      · intro wz hSw
        obtain ⟨z0, z1⟩ := hSw
        go_simp
        (try with_reducible rfl)
      (try simp only [List.getElem_toArray, List.getElem_cons_succ, List.getElem_cons_zero, Act.put, List.setIfInBounds_toArray, List.set_cons_zero, List.set_cons_succ])
      refine till_take (i := 10) (v := ?_) rfl (by kernel_rfl) (by kernel_rfl) (by kernel_rfl) (by kernel_rfl) (fun _ _ _ h => h) (Or.inl ⟨by rfl, ?_⟩) (by assumption) ?_
      rotate_left
      · intro wz hSw
        obtain ⟨z0, z1⟩ := hSw
        go_simp
        (try with_reducible rfl)
      (try simp only [List.getElem_toArray, List.getElem_cons_succ, List.getElem_cons_zero, Act.put, List.setIfInBounds_toArray, List.set_cons_zero, List.set_cons_succ])
      refine till_take (i := 11) (v := ?_) rfl (by kernel_rfl) (by kernel_rfl) (by kernel_rfl) (by kernel_rfl) (fun _ _ _ h => h) (Or.inl ⟨by rfl, ?_⟩) (by assumption) ?_
      rotate_left
      · intro wz hSw
        obtain ⟨z0, z1⟩ := hSw
        go_simp
        (try with_reducible rfl)
      (try simp only [List.getElem_toArray, List.getElem_cons_succ, List.getElem_cons_zero, Act.put, List.setIfInBounds_toArray, List.set_cons_zero, List.set_cons_succ])
      refine till_take (i := 12) (v := ?_) rfl (by kernel_rfl) (by kernel_rfl) (by kernel_rfl) (by kernel_rfl) (fun _ _ _ h => h) (Or.inl ⟨by rfl, ?_⟩) (by assumption) ?_
      rotate_left
      · intro wz hSw
        obtain ⟨z0, z1⟩ := hSw
        go_simp
        (try with_reducible rfl)
      (try simp only [List.getElem_toArray, List.getElem_cons_succ, List.getElem_cons_zero, Act.put, List.setIfInBounds_toArray, List.set_cons_zero, List.set_cons_succ])
      refine till_take (i := 13) (v := ?_) rfl (by kernel_rfl) (by kernel_rfl) (by kernel_rfl) (by kernel_rfl) (fun _ _ _ h => h) (Or.inl ⟨by rfl, ?_⟩) (by assumption) ?_
      rotate_left
      · intro wz hSw
        obtain ⟨z0, z1⟩ := hSw
        go_simp
        (try with_reducible rfl)
      (try simp only [List.getElem_toArray, List.getElem_cons_succ, List.getElem_cons_zero, Act.put, List.setIfInBounds_toArray, List.set_cons_zero, List.set_cons_succ])
      refine till_take (i := 14) (v := ?_) rfl (by kernel_rfl) (by kernel_rfl) (by kernel_rfl) (by kernel_rfl) (fun _ _ _ h => h) (Or.inl ⟨by rfl, ?_⟩) (by assumption) ?_
      rotate_left
      · intro wz hSw
        obtain ⟨z0, z1⟩ := hSw
        go_simp
        (try with_reducible rfl)
      (try simp only [List.getElem_toArray, List.getElem_cons_succ, List.getElem_cons_zero, Act.put, List.setIfInBounds_toArray, List.set_cons_zero, List.set_cons_succ])
      refine till_take (i := 15) (v := ?_) rfl (by kernel_rfl) (by kernel_rfl) (by kernel_rfl) (by kernel_rfl) (fun _ _ _ h => h) (Or.inl ⟨by rfl, ?_⟩) (by assumption) ?_
      rotate_left
      · intro wz hSw
        obtain ⟨z0, z1⟩ := hSw
        go_simp
        (try with_reducible rfl)
      (try simp only [List.getElem_toArray, List.getElem_cons_succ, List.getElem_cons_zero, Act.put, List.setIfInBounds_toArray, List.set_cons_zero, List.set_cons_succ])
      refine till_take (i := 16) (v := ?_) rfl (by kernel_rfl) (by kernel_rfl) (by kernel_rfl) (by kernel_rfl) (fun _ _ _ h => h) (Or.inl ⟨by rfl, ?_⟩) (by assumption) ?_
      rotate_left
      · intro wz hSw
        obtain ⟨z0, z1⟩ := hSw
        go_simp
        (try with_reducible rfl)
      (try simp only [List.getElem_toArray, List.getElem_cons_succ, List.getElem_cons_zero, Act.put, List.setIfInBounds_toArray, List.set_cons_zero, List.set_cons_succ])
      refine till_one (i := 17) (by kernel_rfl) rfl (fun K hK => ?_)
      have HKK := Lib.hid hK
      clear hK
      (try simp only [List.getElem_toArray, List.getElem_cons_succ, List.getElem_cons_zero])
      go_simp
      refine (copyb_k _ (bit B most j) k _ HBL.out HSUB.out hk4).mono ?_
      rintro e w3 ⟨ca, cc, rfl, hrow, tc⟩
      have I3 := Lib.hid (ID.out.past tc)
      have hS3 : RcS w.heap.size s o w3 := ⟨I3.out.x.cell 0 rfl, I3.out.x.cell 1 rfl⟩
      have HROW := Lib.hid (row_base hrow ID.out.t.2.2.2.1)
      clear hrow tc
      refine HKK.out _ _ (fun _ => hS3) ?_
      clear HKK K
      (try simp only [List.getElem_toArray, List.getElem_cons_succ, List.getElem_cons_zero, Act.put, List.setIfInBounds_toArray, List.set_cons_zero, List.set_cons_succ])
      refine till_one (i := 18) (by kernel_rfl) rfl (fun K hK => ?_)
      have HKK := Lib.hid hK
      clear hK
      (try simp only [List.getElem_toArray, List.getElem_cons_succ, List.getElem_cons_zero])
      go_simp
      refine HKK.out _ _ (fun _ => hS3) ?_
      clear HKK K
      (try simp only [List.getElem_toArray, List.getElem_cons_succ, List.getElem_cons_zero, Act.put, List.setIfInBounds_toArray, List.set_cons_zero, List.set_cons_succ])
      have tI := turned_alloc (turned_refl w3 []) (.cells #[.int .u32 0, .int .u16 s, .int .u16 own, .bool (!o), .bool (decide (j = 0)), .bool (decide (min ((j + 1) * most) B.length = B.length)), .slice ca k cc] 38)
      have oI := obj.new w3 38 [.int .u32 0, .int .u16 s, .int .u16 own, .bool (!o), .bool (decide (j = 0)), .bool (decide (min ((j + 1) * most) B.length = B.length)), .slice ca k cc]
      have OI := Lib.hid oI
      have TI := Lib.hid tI
      clear oI tI
      refine till_one (i := 19) (by kernel_rfl) rfl (fun K hK => ?_)
      have HKK := Lib.hid hK
      clear hK
      (try simp only [List.getElem_toArray, List.getElem_cons_succ, List.getElem_cons_zero])
      go_simp
      generalize hwr : w3.alloc _ = w4 at OI TI ⊢
      clear hwr
      have I4 := Lib.hid (I3.out.past TI.out)
      have hS4 : RcS w.heap.size s o w4 := ⟨I4.out.x.cell 0 rfl, I4.out.x.cell 1 rfl⟩
      refine HKK.out _ _ (fun _ => hS4) ?_
      clear HKK K
      (try simp only [List.getElem_toArray, List.getElem_cons_succ, List.getElem_cons_zero, Act.put, List.setIfInBounds_toArray, List.set_cons_zero, List.set_cons_succ])
      have hyl : Lies w4 7 (.slice (some ⟨w3.heap.size, 0, none⟩) 1 1) 1 (flat cPD [⟨0, s, own, !o, decide (j = 0), decide (min ((j + 1) * most) B.length = B.length), ca, k, cc⟩]) := Lies.lit OI.out rfl (by omega)
      refine till_one (i := 20) (o := { dst := some 55, op := Op.call { callee := Go.Callee.builtin Go.Builtin.append, args := #[Operand.tmp 35, Operand.tmp 54], argTypes := #[29, 29] }, type := 29, pos := "ref.go:45", after := #[{ on := 0, ground := Ground.data }, { on := 19, ground := Ground.data }, { on := 17, ground := Ground.chain }], guard := none }) (by kernel_rfl) rfl (fun K hK => ?_)
      refine step_append_lies' w4 rfl (.tmp 35) (.tmp 54) 29 rfl w.heap.size 38 i0 _ 7 40 Try.underlying29 hi0 hz0 hz1 hz2 rfl (by decide) (.slice ra Y.length rc) Y.length (flat cPD Y) rfl I4.out.r _ 1 _ rfl hyl (flatPD_one _) (by have := HYN.out; unfold maxLen; omega) (by have := HYN.out; omega) I4.out.t.2.2.2.1 ?_
      intro v' w5 ho hg hl
      have hS5 : RcS w.heap.size s o w5 := by
        have m5 := I4.out.x.kept hg (fun e => row_ne I4.out.r I4.out.x (by decide) e.symm)
        exact ⟨m5.cell 0 rfl, m5.cell 1 rfl⟩
      refine hK _ _ (fun _ => hS5) ?_
      clear hK K
      have HO := Lib.hid ho
      have HG := Lib.hid hg
      clear ho hg hl hyl
      (try simp only [List.getElem_toArray, List.getElem_cons_succ, List.getElem_cons_zero, Act.put, List.setIfInBounds_toArray, List.set_cons_zero, List.set_cons_succ])
      refine till_one (i := 21) (by kernel_rfl) rfl (fun K hK => ?_)
      have HKK := Lib.hid hK
      clear hK
      (try simp only [List.getElem_toArray, List.getElem_cons_succ, List.getElem_cons_zero])
      go_simp
      refine HKK.out _ _ (fun h => absurd rfl h) ?_
      clear HKK K
      (try simp only [List.getElem_toArray, List.getElem_cons_succ, List.getElem_cons_zero, Act.put, List.setIfInBounds_toArray, List.set_cons_zero, List.set_cons_succ])
      refine till_done (by kernel_rfl) ?_ _
      have hkl1 : (k : Int) ≤ (ll : Int) := by omega
      have hmn : B.drop (min ((j + 1) * most) B.length) = (B.drop (j * most)).drop k := by
        have h1 := HK.out
        have h2 := HL2.out
        rw [List.drop_drop, HNN.out, Nat.add_mul, Nat.one_mul]
        rcases Nat.le_total most ll with h | h
        · rw [Nat.min_eq_left h] at h1
          rw [Nat.min_eq_left (by omega), h1]
        · rw [Nat.min_eq_right h] at h1
          rw [Nat.min_eq_right (by omega), h1, List.drop_eq_nil_of_le (by rw [HNN.out]; exact Nat.le_refl _), List.drop_eq_nil_of_le (by rw [HNN.out]; omega)]
      have HMN := Lib.hid hmn
      have hlw : LiesB w (.slice (some ⟨lb, lo, none⟩) ll lc) (B.drop (j * most)) := by have := ID.out.l; rw [HDR.out] at this; exact this
      have hll3 : (B.drop (j * most)).length = ll := by rw [← HDR.out]; exact HLL.out
      have HROW4 := Lib.hid (row_past HROW.out TI.out (by simp))
      have hj1 : j + 1 ≤ n := by
        have h1 : j * 1 ≤ j * most := Nat.mul_le_mul_left _ hm
        omega
      have hall' : ∀ i, i < j + 1 → i * most < n := fun i hi => by
        rcases Nat.lt_or_ge i j with h | h
        · exact HALL.out i h
        · have e : i = j := by omega
          rw [e]; exact hjm
      have HALL2 := Lib.hid hall'
      clear hmn hall'
      by_cases hcc : lc = k
      · have hlk : ll = k := by omega
        have HLE := Lib.hid (show LiesB w (.slice (some ⟨lb, lo, none⟩) 0 0) (B.drop (min ((j + 1) * most) B.length)) from by
          rw [HMN.out, List.drop_eq_nil_of_le (by rw [hll3]; omega)]
          exact ⟨⟨rfl, _, _, rfl, Nat.le_refl _, by omega, fun h0 => by simp at h0⟩, by intro x hx; cases hx⟩)
        clear hlw hll3
        subst hlk
        subst hcc
        go_wp2_with fail
        go_roundw
        case rel => exact ⟨j + 1, _, I4.out.snoc HROW4.out HG.out HO.out HLE.out, hj1, HALL2.out⟩
        case measure => simp only [slN]; omega
      · have hcc2 : ¬ lc ≤ k := by omega
        have HLE := Lib.hid (show LiesB w (.slice (some ⟨lb, lo + k, none⟩) (ll - k) (lc - k)) (B.drop (min ((j + 1) * most) B.length)) from by
          have h := liesB_sub (show LiesB w (.slice (some ⟨lb, lo, none⟩) (B.drop (j * most)).length lc) (B.drop (j * most)) from by rw [hll3]; exact hlw) k (ll - k) (lc - k) (by rw [hll3]; omega) (by omega) (by omega) (some ⟨lb, lo + k, none⟩) (fun b off e => by cases e; rfl)
          rw [List.take_of_length_le (by rw [List.length_drop, hll3]; exact Nat.le_refl _)] at h
          rw [HMN.out]
          exact h)
        clear hlw hll3
        go_wp2_with fail
        go_roundw
        case rel => exact ⟨j + 1, _, I4.out.snoc HROW4.out HG.out HO.out HLE.out, hj1, HALL2.out⟩
        case measure => simp only [slN]; omega
    · have hnl : ¬ (0 : Int) < (ll : Int) := by omega
      have hfin : n ≤ j * most := by have := HL2.out; omega
      clear hpos
      go_wp2_with fail
      go_ret2
      exact ⟨_, _, j, Y, rfl, HI2.out, by rw [HNN.out]; exact hfin, by rw [HNN.out]; exact HALL.out⟩
end Go.Proofs.Ytcfpgeceenkheaa
