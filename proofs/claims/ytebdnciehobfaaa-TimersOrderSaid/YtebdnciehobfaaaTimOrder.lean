/- The walk of TimersOrder. No condition. -/
import Derived.Test.YtebdnciehobfaaaTimRows
import Derived.Laws.MakeOwn
import Derived.Laws.OwnMore
namespace Go.Proofs.Ytebdnciehobfaaa
open Go.RowKit Go.ChangeShapes Go.WideShapes Go.Deep
set_option linter.unusedVariables false
set_option linter.unusedSimpArgs false

/-- Which keys are gone. -/
def goneB (M : List (Int × Int)) (j : Nat) : Bool := !decide (∃ x, x ∈ M ∧ x.1 = (j : Int))
def goneL (M : List (Int × Int)) (n : Nat) : List Value := (List.range n).map fun j : Nat => Value.bool (goneB M j)
theorem goneL_at (M : List (Int × Int)) (n j : Nat) (hj : j < n) : (goneL M n)[j]? = some (.bool (goneB M j)) := by simp [goneL, hj]
theorem goneL_set (M : List (Int × Int)) (n j : Nat) (hj : j < n) : (goneL M n).set j (.bool true) = goneL (drp (j : Int) M) n := by
  apply List.ext_getElem?
  intro i
  rw [List.getElem?_set]
  by_cases hi : i < n
  · rw [goneL_at (drp (j : Int) M) n i hi]
    by_cases hij : j = i
    · subst hij
      rw [if_pos rfl, if_pos (by simp [goneL]; omega)]
      have : goneB (drp (j : Int) M) j = true := by
        unfold goneB
        rw [decide_eq_false (fun ⟨x, hx, e⟩ => (mem_drp.1 hx).2 e)]
        rfl
      rw [this]
    · rw [if_neg hij, goneL_at M n i hi]
      have : goneB (drp (j : Int) M) i = goneB M i := by
        unfold goneB
        congr 1
        apply decide_eq_decide.2
        constructor
        · rintro ⟨x, hx, e⟩; exact ⟨x, (mem_drp.1 hx).1, e⟩
        · rintro ⟨x, hx, e⟩; exact ⟨x, mem_drp.2 ⟨hx, fun e2 => hij (by rw [e] at e2; exact (Int.ofNat.inj e2).symm)⟩, e⟩
      rw [this]
  · have h1 : (goneL M n)[i]? = none := by simp [goneL]; omega
    have h2 : (goneL (drp (j : Int) M) n)[i]? = none := by simp [goneL]; omega
    rw [h1, h2]
    have : j ≠ i := by omega
    rw [if_neg this]
theorem goneL_start (f : Nat → Int) (n : Nat) : List.replicate n (Value.bool false) = goneL (rows f n) n := by
  apply List.ext_getElem?
  intro i
  by_cases hi : i < n
  · rw [goneL_at _ n i hi]
    have : goneB (rows f n) i = false := by
      unfold goneB
      rw [decide_eq_true ⟨((i : Int), f i), mem_rows.2 ⟨i, hi, rfl⟩, rfl⟩]
      rfl
    rw [this]
    simp [hi]
  · have h1 : (goneL (rows f n) n)[i]? = none := by simp [goneL]; omega
    rw [h1]
    simp; omega

/-- The table beside the row of what was seen. -/
def withSeen (W w : World) (b sb n : Nat) (L : List (Int × Int)) : Prop :=
  ∃ F, tabI w b F n L ∧ (∀ k, k ∈ F → W.heap.size ≤ k ∧ k ≠ sb) ∧ W.heap.size ≤ sb ∧ obj w sb 4 (goneL L n) ∧ Below W.heap.size W w
theorem withSeen.below {W w : World} {b sb n : Nat} {L : List (Int × Int)} (h : withSeen W w b sb n L) : Below W.heap.size W w := by obtain ⟨F, _, _, _, _, h⟩ := h; exact h
theorem withSeen.keys {W w : World} {b sb n : Nat} {L : List (Int × Int)} (h : withSeen W w b sb n L) : L.Pairwise (fun a b => a.1 ≠ b.1) := by obtain ⟨F, h, _⟩ := h; exact h.keys
theorem withSeen.drewN {W w : World} {b sb n : Nat} {L : List (Int × Int)} (h : withSeen W w b sb n L) (q : Nat) : withSeen W (w.drewN q) b sb n L := by
  obtain ⟨F, h1, h2, h3, h4, h5⟩ := h
  exact ⟨F, h1.past (turned_drewN w q []) (by simp), h2, h3, h4.drewN q, below_drewN q h5⟩
/-- The table where what was seen is behind: L' is the row already, the seen ones are those of L. -/
def behind (W w : World) (b sb n : Nat) (L L' : List (Int × Int)) : Prop :=
  ∃ F, tabI w b F n L' ∧ (∀ k, k ∈ F → W.heap.size ≤ k ∧ k ≠ sb) ∧ W.heap.size ≤ sb ∧ obj w sb 4 (goneL L n) ∧ Below W.heap.size W w
theorem behind.below {W w : World} {b sb n : Nat} {L L' : List (Int × Int)} (h : behind W w b sb n L L') : Below W.heap.size W w := by obtain ⟨F, _, _, _, _, h⟩ := h; exact h
theorem behind.set {W w : World} {b sb n j : Nat} {L : List (Int × Int)} (h : behind W w b sb n L (drp (j : Int) L)) (hj : j < n) : withSeen W (w.setCell ⟨sb, j, none⟩ (.bool true)) b sb n (drp (j : Int) L) := by
  obtain ⟨F, h1, h2, h3, h4, h5⟩ := h
  have t : turned w (w.setCell ⟨sb, j, none⟩ (.bool true)) [sb] := turned_set (turned_refl w [sb]) (List.mem_singleton.2 rfl) _
  refine ⟨F, h1.past t (fun k hk e => (h2 k hk).2 (List.mem_singleton.1 e)), h2, h3, ?_, below_turned h5 t (fun k hk => by rw [List.mem_singleton.1 hk]; exact h3)⟩
  rw [← goneL_set L n j hj]
  exact h4.set j _
theorem sNext {W w : World} {b sb n : Nat} {L : List (Int × Int)} (h : withSeen W w b sb n L) :
    Calls Try.prog 16 #[.pointer (some ⟨b, 0, none⟩)] w fun e w' => e = .returned (outI (best L)) ∧ withSeen W w' b sb n L := by
  obtain ⟨F, h1, h2, h3, h4, h5⟩ := h
  refine (tnextI b F n L w h1).mono ?_
  rintro e w' ⟨rfl, t⟩
  exact ⟨rfl, F, h1.past t (by simp), h2, h3, h4.past t (by simp), below_turned h5 t (by simp)⟩
theorem sPop_no {W w : World} {b sb n : Nat} {L : List (Int × Int)} (h : withSeen W w b sb n L) (now : Int) (hb : ∀ x, best L = some x → now < x.2) :
    Calls Try.prog 18 #[.pointer (some ⟨b, 0, none⟩), .int .i64 now] w fun e w' => e = .returned (.tuple #[mkI 0, .bool false]) ∧ withSeen W w' b sb n L := by
  obtain ⟨F, h1, h2, h3, h4, h5⟩ := h
  refine (tpopI_no b F n L now w h1 hb).mono ?_
  rintro e w' ⟨rfl, t⟩
  exact ⟨rfl, F, h1.past t (by simp), h2, h3, h4.past t (by simp), below_turned h5 t (by simp)⟩
theorem sPop {W w : World} {b sb n : Nat} {L : List (Int × Int)} (h : withSeen W w b sb n L) (x : Int × Int) (hb : best L = some x) :
    Calls Try.prog 18 #[.pointer (some ⟨b, 0, none⟩), .int .i64 x.2] w fun e w' => e = .returned (.tuple #[mkI x.1, .bool true]) ∧ behind W w' b sb n L (drp x.1 L) := by
  obtain ⟨F, h1, h2, h3, h4, h5⟩ := h
  refine (tpopI_yes b F n L x x.2 w h1 hb (Int.le_refl _)).mono ?_
  rintro e w' ⟨rfl, r, t⟩
  exact ⟨rfl, F, r, h2, h3, h4.past t (fun e => (h2 sb e).2 rfl), below_turned h5 t (fun k hk => (h2 k hk).1)⟩
theorem sLen {W w : World} {b sb n : Nat} {L L' : List (Int × Int)} (h : behind W w b sb n L L') :
    Calls Try.prog 20 #[.pointer (some ⟨b, 0, none⟩)] w fun e w' => e = .returned (.int .i64 (L'.length : Int)) ∧ w = w' := by
  obtain ⟨F, h1, _⟩ := h
  exact tlenI b F n L' w h1

/-- The order so far. -/
structure OrdS (f : Nat → Int) (n i : Nat) (last : Int) (M : List (Int × Int)) : Prop where
  mem : ∀ y, y ∈ M → ∃ j : Nat, j < n ∧ y = ((j : Int), f j)
  len : M.length + i = n
  srt : M.Pairwise (fun a b => a.1 < b.1)
  lst : last = -1 ∨ ∃ l : Nat, l < n ∧ last = (l : Int) ∧ ∀ y, y ∈ M → f l < y.2 ∨ (f l = y.2 ∧ (l : Int) < y.1)
theorem ord_start (f : Nat → Int) (n : Nat) : OrdS f n 0 (-1) (rows f n) := by
  refine ⟨fun y hy => mem_rows.1 hy, rows_length f n, ?_, Or.inl rfl⟩
  unfold rows
  rw [List.pairwise_map]
  exact List.pairwise_lt_range.imp (fun h => by show ((_ : Nat) : Int) < _; omega)
theorem ord_step {f : Nat → Int} {n i j : Nat} {last : Int} {M : List (Int × Int)} (h : OrdS f n i last M) (hj : j < n) (hb : best M = some ((j : Int), f j)) : OrdS f n (i + 1) (j : Int) (drp (j : Int) M) := by
  have hp : M.Pairwise (fun a b => a.1 ≠ b.1) := h.srt.imp (fun h => by omega)
  have hl : (drp (j : Int) M).length + 1 = M.length := drp_length hp (best_mem hb)
  refine ⟨fun y hy => h.mem y (mem_drp.1 hy).1, by have := h.len; omega, h.srt.filter _, Or.inr ⟨j, hj, rfl, fun y hy => ?_⟩⟩
  obtain ⟨l1, l2, e, h1, h2⟩ := best_split hb
  obtain ⟨hy1, hy2⟩ := mem_drp.1 hy
  have hs := h.srt
  rw [e] at hy1 hs
  obtain ⟨_, s2, _⟩ := List.pairwise_append.1 hs
  obtain ⟨s3, _⟩ := List.pairwise_cons.1 s2
  simp only [List.mem_append, List.mem_cons] at hy1
  rcases hy1 with m | rfl | m
  · exact Or.inl (h1 y m)
  · exact absurd rfl hy2
  · have a1 : f j ≤ y.2 := h2 y m
    have a2 : (j : Int) < y.1 := s3 y m
    omega
def ORel1 (W : World) (b n : Nat) (f : Nat → Int) (i : Value) (wr : World) : Prop :=
  ∃ k : Nat, k ≤ n ∧ i = .int .i64 (k : Int) ∧ heldI W wr b k (rows f k)
def ORel2 (W : World) (b sb n : Nat) (f : Nat → Int) (last i : Value) (wr : World) : Prop :=
  ∃ (k : Nat) (l : Int) (M : List (Int × Int)), k ≤ n ∧ i = .int .i64 (k : Int) ∧ last = .int .i64 l ∧ withSeen W wr b sb n M ∧ OrdS f n k l M
theorem info4 : (Try.prog.info? 4).map (fun i => (i.zero, i.size, i.bytes)) = some (some (.bool false), 1, 1) := by kernel_rfl
theorem seen_start {W w : World} {b n : Nat} {f : Nat → Int} (h : heldI W w b n (rows f n)) : withSeen W (w.alloc (.cells (madeCells #[.bool false] n) 4)) b w.heap.size n (rows f n) := by
  obtain ⟨F, h1, h2, h3⟩ := h
  have hs := h3.size
  have t : turned w (w.alloc (.cells (madeCells #[.bool false] n) 4)) [] := turned_alloc (turned_refl w []) _
  refine ⟨F, h1.past t (by simp), fun k hk => ⟨h2 k hk, fun e => ?_⟩, hs, ?_, below_turned h3 t (by simp)⟩
  · have := h1.lt k hk; omega
  · have h := obj.new w 4 (List.replicate n (.bool false))
    rw [← goneL_start]
    rw [← toList_madeCells_one] at h ⊢
    simpa using h

set_option maxRecDepth 100000 in
set_option maxHeartbeats 16000000 in
theorem order_good (v : Value) (x : Nat × (Nat → Int)) (W : World) (ho : Times W v x) (hn : x.1 ≤ 200) :
    Calls Try.prog 4 #[v] W fun e w' => e = .returned (.bool true) ∧ Below W.heap.size W w' := by
  obtain ⟨n, ts⟩ := x
  obtain ⟨⟨a, cap, rfl, hcap, hcap2, hsl⟩, hts⟩ := ho
  simp only at hn hts hsl hcap
  obtain ⟨i0, hi, hz0, hz1, hz2⟩ := info_parts info4
  have hmk : ∀ w : World, (Instr.makeSlice 41 (.int .i64 (n : Int)) (.int .i64 (n : Int))).run Try.prog w = .ok (.slice (some ⟨w.heap.size, 0, none⟩) n n) (w.alloc (.cells (madeCells #[.bool false] n) 4)) := fun w => by
    have := run_makeSlice (P := Try.prog) w 41 4 i0 (.bool false) Try.underlying41 hi hz0 .i64 .i64 (n : Int) (n : Int) (by omega) (Int.le_refl _) (by rw [hz1]; omega) (by rw [hz2]; omega) (by omega)
    simpa [hz1, Value.cells] using this
  have HSL := Lib.hid hsl
  have HTS := Lib.hid hts
  clear hsl hts hi hz0 hz1 hz2
  go_enter Try.func4, Try.ntmps4
  go_wp2_with fail
  refine (hnewI (Below.refl _ W)).mono ?_
  rintro e w1 ⟨rfl, h1⟩
  have H1 := Lib.hid h1
  clear h1
  generalize W.heap.size + 1 = b at H1 ⊢
  go_wp2_with fail
  go_loopw [4] (fun i wr => ORel1 W b n ts i wr) (fun i _ => n - (intOf i).toNat)
  case atStart => exact ⟨0, Nat.zero_le _, rfl, H1.out⟩
  case round =>
    obtain ⟨k, hk, rfl, hh⟩ := hrel
    have HH := Lib.hid hh
    have HB := Lib.hid hh.below
    clear hh
    by_cases hlt : k < n
    · rcases HSL.out with h0 | ⟨b1, off, rfl, hb, hc⟩
      · omega
      have hr0 := sl_cell (hc k 0 hlt (by decide)) hb HB.out
      simp at hr0
      clear hc
      go_wp2_with fail
      refine (hsetI HH.out (k : Int) (ts k) (keyI (wf_i64 (by omega))) (by omega)).mono ?_
      rintro e w2 ⟨rfl, h2⟩
      have H2 := Lib.hid (h2.val (rows_step ts k) (Nat.le_refl _))
      clear h2
      go_wp2_with fail
      go_roundw
      case rel => exact ⟨k + 1, by omega, by go_num, H2.out⟩
      case measure => simp only [intOf]; omega
    · have hkn : k = n := by omega
      subst hkn
      have HS := Lib.hid (seen_start HH.out)
      have hmk2 := hmk wr
      clear hmk
      generalize hwm : wr.alloc (.cells (madeCells #[.bool false] k) 4) = wm at HS hmk2
      generalize wr.heap.size = sb at HS hmk2
      clear hwm
      go_wp2_with fail
      go_loopw [6, 7] (fun last i wr => ORel2 W b sb k ts last i wr) (fun _ i _ => k - (intOf i).toNat)
      case atStart => exact ⟨0, -1, _, Nat.zero_le _, rfl, rfl, HS.out, ord_start ts k⟩
      case round =>
        obtain ⟨i, l, M, hi, rfl, rfl, hm, hs⟩ := hrel
        have HM := Lib.hid hm
        have hlen := hs.len
        have HO := Lib.hid hs
        clear hm hs
        by_cases hlt : i < k
        · obtain ⟨y, hy⟩ := best_some (L := M) (fun e => by rw [e] at hlen; simp at hlen; omega)
          have hym := best_mem hy
          obtain ⟨j, hj, rfl⟩ := HO.out.mem y hym
          have hg : goneB M j = false := by
            unfold goneB
            rw [decide_eq_true ⟨_, hym, rfl⟩]
            rfl
          have hs2 := ord_step HO.out hj hy
          have hlen2 : ((drp (j : Int) M).length : Int) = (k : Int) - 1 - (i : Int) := by have := hs2.len; omega
          have HS2 := Lib.hid hs2
          have q1 : (ts j != ts j) = false := by simp
          have q2 : ((j : Int) != (j : Int)) = false := by simp
          have q3 : ((k : Int) - 1 - (i : Int) != (k : Int) - 1 - (i : Int)) = false := by simp
          have hbnd := HTS.out j hj
          rcases HSL.out with h0 | ⟨b1, off, rfl, hb, hc⟩
          · omega
          have HC := Lib.hid hc
          clear hs2 hc
          go_wp2_with fail
          refine (sNext HM.out).mono ?_
          rintro e w3 ⟨rfl, h3⟩
          rw [hy]
          unfold outI mkI
          have hr0 := sl_cell (HC.out j 0 hj (by decide)) hb h3.below
          simp at hr0
          have hsn : w3.cell? ⟨sb, j, none⟩ = some (.bool false) := by
            obtain ⟨F, _, _, _, ho, _⟩ := h3
            rw [← hg]; exact ho.cell j (goneL_at M k j hj)
          have H3 := Lib.hid h3
          clear h3
          go_wp2_with fail
          have hl : l = -1 ∨ ∃ l0 : Nat, l0 < k ∧ l = (l0 : Int) ∧ (ts l0 < ts j ∨ (ts l0 = ts j ∧ l0 < j)) := by
            rcases HO.out.lst with h | ⟨l0, h1, h2, h3⟩
            · exact Or.inl h
            · have h4 : ts l0 < ts j ∨ (ts l0 = ts j ∧ (l0 : Int) < (j : Int)) := h3 _ hym
              exact Or.inr ⟨l0, h1, h2, by omega⟩
          rcases hl with rfl | ⟨l0, hl0, rfl, hll | ⟨heq, hlj⟩⟩
          · skip
            by_cases hmin : -9223372036854775808 < ts j
            · go_quiet (fail)
              have H3' := Lib.hid (H3.out.drewN nq)
              go_wp2_with fail
              refine (sPop_no (by exact H3'.out) (ts j - 1) (by intro x hx; rw [hy] at hx; cases hx; show ts j - 1 < ts j; omega)).mono ?_
              rintro e w4 ⟨rfl, h4⟩
              unfold mkI
              have H4 := Lib.hid h4
              clear h4
              go_wp2_with fail
              refine (sPop (by exact H4.out) ((j : Int), ts j) hy).mono ?_
              rintro e w5 ⟨rfl, h5⟩
              unfold mkI
              have hs1 : w5.cell? ⟨sb, j, none⟩ = some (.bool false) := by
                obtain ⟨F, _, _, _, ho, _⟩ := h5
                rw [← hg]; exact ho.cell j (goneL_at M k j hj)
              have hs2 : w5.frozen? ⟨sb, j, none⟩ = false := by
                obtain ⟨F, _, _, _, ho, _⟩ := h5
                exact ho.free j
              have H5 := Lib.hid h5
              clear h5
              go_wp2_with fail
              refine (sLen H5.out).mono ?_
              rintro e w9 ⟨rfl, rfl⟩
              rw [hlen2]
              go_wp2_with fail
              go_roundw
              case rel => exact ⟨i + 1, (j : Int), _, by omega, by go_num, rfl, H5.out.set hj, HS2.out⟩
              case measure => simp only [intOf]; omega
            · go_quiet (fail)
              have H4 := Lib.hid (H3.out.drewN nq)
              go_wp2_with fail
              refine (sPop (by exact H4.out) ((j : Int), ts j) hy).mono ?_
              rintro e w5 ⟨rfl, h5⟩
              unfold mkI
              have hs1 : w5.cell? ⟨sb, j, none⟩ = some (.bool false) := by
                obtain ⟨F, _, _, _, ho, _⟩ := h5
                rw [← hg]; exact ho.cell j (goneL_at M k j hj)
              have hs2 : w5.frozen? ⟨sb, j, none⟩ = false := by
                obtain ⟨F, _, _, _, ho, _⟩ := h5
                exact ho.free j
              have H5 := Lib.hid h5
              clear h5
              go_wp2_with fail
              refine (sLen H5.out).mono ?_
              rintro e w9 ⟨rfl, rfl⟩
              rw [hlen2]
              go_wp2_with fail
              go_roundw
              case rel => exact ⟨i + 1, (j : Int), _, by omega, by go_num, rfl, H5.out.set hj, HS2.out⟩
              case measure => simp only [intOf]; omega
          · have hr1 := sl_cell (HC.out l0 0 hl0 (by decide)) hb H3.out.below
            simp at hr1
            have g1 : decide (ts j < ts l0) = false := decide_eq_false (by omega)
            have g2 : (ts l0 == ts j) = false := by simp; omega
            by_cases hmin : -9223372036854775808 < ts j
            · go_quiet (fail)
              have H3' := Lib.hid (H3.out.drewN nq)
              go_wp2_with fail
              refine (sPop_no (by exact H3'.out) (ts j - 1) (by intro x hx; rw [hy] at hx; cases hx; show ts j - 1 < ts j; omega)).mono ?_
              rintro e w4 ⟨rfl, h4⟩
              unfold mkI
              have H4 := Lib.hid h4
              clear h4
              go_wp2_with fail
              refine (sPop (by exact H4.out) ((j : Int), ts j) hy).mono ?_
              rintro e w5 ⟨rfl, h5⟩
              unfold mkI
              have hs1 : w5.cell? ⟨sb, j, none⟩ = some (.bool false) := by
                obtain ⟨F, _, _, _, ho, _⟩ := h5
                rw [← hg]; exact ho.cell j (goneL_at M k j hj)
              have hs2 : w5.frozen? ⟨sb, j, none⟩ = false := by
                obtain ⟨F, _, _, _, ho, _⟩ := h5
                exact ho.free j
              have H5 := Lib.hid h5
              clear h5
              go_wp2_with fail
              refine (sLen H5.out).mono ?_
              rintro e w9 ⟨rfl, rfl⟩
              rw [hlen2]
              go_wp2_with fail
              go_roundw
              case rel => exact ⟨i + 1, (j : Int), _, by omega, by go_num, rfl, H5.out.set hj, HS2.out⟩
              case measure => simp only [intOf]; omega
            · go_quiet (fail)
              have H4 := Lib.hid (H3.out.drewN nq)
              go_wp2_with fail
              refine (sPop (by exact H4.out) ((j : Int), ts j) hy).mono ?_
              rintro e w5 ⟨rfl, h5⟩
              unfold mkI
              have hs1 : w5.cell? ⟨sb, j, none⟩ = some (.bool false) := by
                obtain ⟨F, _, _, _, ho, _⟩ := h5
                rw [← hg]; exact ho.cell j (goneL_at M k j hj)
              have hs2 : w5.frozen? ⟨sb, j, none⟩ = false := by
                obtain ⟨F, _, _, _, ho, _⟩ := h5
                exact ho.free j
              have H5 := Lib.hid h5
              clear h5
              go_wp2_with fail
              refine (sLen H5.out).mono ?_
              rintro e w9 ⟨rfl, rfl⟩
              rw [hlen2]
              go_wp2_with fail
              go_roundw
              case rel => exact ⟨i + 1, (j : Int), _, by omega, by go_num, rfl, H5.out.set hj, HS2.out⟩
              case measure => simp only [intOf]; omega
          · have hr1 := sl_cell (HC.out l0 0 hl0 (by decide)) hb H3.out.below
            simp at hr1
            have g1 : decide (ts j < ts l0) = false := decide_eq_false (by omega)
            have g2 : (ts l0 == ts j) = true := by simp; omega
            have g3 : decide ((j : Int) < (l0 : Int)) = false := decide_eq_false (by omega)
            by_cases hmin : -9223372036854775808 < ts j
            · go_quiet (fail)
              have H3' := Lib.hid (H3.out.drewN nq)
              go_wp2_with fail
              refine (sPop_no (by exact H3'.out) (ts j - 1) (by intro x hx; rw [hy] at hx; cases hx; show ts j - 1 < ts j; omega)).mono ?_
              rintro e w4 ⟨rfl, h4⟩
              unfold mkI
              have H4 := Lib.hid h4
              clear h4
              go_wp2_with fail
              refine (sPop (by exact H4.out) ((j : Int), ts j) hy).mono ?_
              rintro e w5 ⟨rfl, h5⟩
              unfold mkI
              have hs1 : w5.cell? ⟨sb, j, none⟩ = some (.bool false) := by
                obtain ⟨F, _, _, _, ho, _⟩ := h5
                rw [← hg]; exact ho.cell j (goneL_at M k j hj)
              have hs2 : w5.frozen? ⟨sb, j, none⟩ = false := by
                obtain ⟨F, _, _, _, ho, _⟩ := h5
                exact ho.free j
              have H5 := Lib.hid h5
              clear h5
              go_wp2_with fail
              refine (sLen H5.out).mono ?_
              rintro e w9 ⟨rfl, rfl⟩
              rw [hlen2]
              go_wp2_with fail
              go_roundw
              case rel => exact ⟨i + 1, (j : Int), _, by omega, by go_num, rfl, H5.out.set hj, HS2.out⟩
              case measure => simp only [intOf]; omega
            · go_quiet (fail)
              have H4 := Lib.hid (H3.out.drewN nq)
              go_wp2_with fail
              refine (sPop (by exact H4.out) ((j : Int), ts j) hy).mono ?_
              rintro e w5 ⟨rfl, h5⟩
              unfold mkI
              have hs1 : w5.cell? ⟨sb, j, none⟩ = some (.bool false) := by
                obtain ⟨F, _, _, _, ho, _⟩ := h5
                rw [← hg]; exact ho.cell j (goneL_at M k j hj)
              have hs2 : w5.frozen? ⟨sb, j, none⟩ = false := by
                obtain ⟨F, _, _, _, ho, _⟩ := h5
                exact ho.free j
              have H5 := Lib.hid h5
              clear h5
              go_wp2_with fail
              refine (sLen H5.out).mono ?_
              rintro e w9 ⟨rfl, rfl⟩
              rw [hlen2]
              go_wp2_with fail
              go_roundw
              case rel => exact ⟨i + 1, (j : Int), _, by omega, by go_num, rfl, H5.out.set hj, HS2.out⟩
              case measure => simp only [intOf]; omega
        · have hik : i = k := by omega
          subst hik
          have hM0 : M = [] := nil_of_length (by omega)
          subst hM0
          go_wp2_with fail
          refine (sNext HM.out).mono ?_
          rintro e w3 ⟨rfl, h3⟩
          unfold best outI mkI
          have H3 := Lib.hid h3
          clear h3
          go_wp2_with fail
          refine (sPop_no H3.out 9223372036854775807 (by intro x hx; cases hx)).mono ?_
          rintro e w4 ⟨rfl, h4⟩
          unfold mkI
          have H4 := Lib.hid h4
          clear h4
          go_wp2_with (go_at_call 10; refine (works_any _).mono ?_; rintro e w9 ⟨rfl, g9⟩)
          go_ret
          exact ⟨rfl, below_works H4.out.below g9⟩
set_option maxRecDepth 100000 in
set_option maxHeartbeats 4000000 in
theorem timersOrder.walk (W : World) (v : Value) (x : Nat × (Nat → Int)) (ho : Times W v x) :
    Calls Try.prog 4 #[v] W fun e w' => e = .returned (.bool true) ∧ Below W.heap.size W w' := by
  by_cases hn : x.1 ≤ 200
  · exact order_good v x W ho hn
  · obtain ⟨n, ts⟩ := x
    obtain ⟨⟨a, cap, rfl, hcap, hcap2, hsl⟩, hts⟩ := ho
    simp only at hn hcap
    clear hsl hts
    have h2 : 200 < n := by omega
    go_enter Try.func4, Try.ntmps4
    go_wp2_with (go_at_call 10; refine (works_any _).mono ?_; rintro e w9 ⟨rfl, g9⟩)
    go_ret
    exact ⟨rfl, g9⟩
end Go.Proofs.Ytebdnciehobfaaa
