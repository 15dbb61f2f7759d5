/- The walk of TimersKinds. No condition. -/
import Derived.Test.YtebdnciehobfaaaTimTri
import Derived.Test.YtebdnciehobfaaaTimWorks
import Derived.Test.YtebdnciehobfaaaTimPlays
import Derived.Deep.RegionHeld3
import Derived.Laws.Entries
namespace Go.Proofs.Ytebdnciehobfaaa
open Go.RowKit Go.Maps Go.ChangeShapes Go.WideShapes Go.Deep
set_option linter.unusedVariables false
set_option linter.unusedSimpArgs false

def NAMES : List Value := [.string ⟨#[97]⟩, .string ⟨#[98]⟩, .string ⟨#[]⟩, .string ⟨#[100]⟩]
theorem names_at (k : Fin 4) : NAMES[k.val]? = some (.string (nam k)) := match k with | 0 => rfl | 1 => rfl | 2 => rfl | 3 => rfl
theorem and3 (x : Int) : ∃ k : Fin 4, bits .and .i64 x 3 = num k := by
  have h : (BitVec.ofInt 64 x &&& BitVec.ofInt 64 3).toNat ≤ 3 := by
    rw [BitVec.toNat_and]
    exact Nat.and_le_right
  obtain ⟨n, hn⟩ : ∃ n, (BitVec.ofInt 64 x &&& BitVec.ofInt 64 3).toNat = n := ⟨_, rfl⟩
  rw [hn] at h
  refine ⟨⟨n, by omega⟩, ?_⟩
  show IntKind.i64.wrap ((BitVec.ofInt 64 x &&& BitVec.ofInt 64 3).toNat : Int) = (n : Int)
  rw [hn]
  exact IntWalk.i64_in _ (by omega)
theorem and3k (k : Fin 4) : bits .and .i64 (num k) 3 = num k := by revert k; decide
def KiRel (W : World) (a b c nb n : Nat) (i : Value) (wr : World) : Prop :=
  ∃ (j : Nat) (L : List (Fin 4 × Int)), j ≤ n ∧ i = .int .i64 (j : Int) ∧ tri W wr a b c j j j (ren num L) (ren nam L) (ren par L) ∧ obj wr nb 9 NAMES
theorem tri.old {W w : World} {a b c n m l : Nat} {L : List (Int × Int)} {M : List (ByteArray × Int)} {N : List ((Int × Int) × Int)} (h : tri W w a b c n m l L M N) {p : Addr} {u : Value} (hp : W.cell? p = some u) (hlt : p.block < W.heap.size) : w.cell? p = some u := (h.below.cell (p := p) hlt).trans hp
set_option maxRecDepth 100000 in
set_option maxHeartbeats 16000000 in
theorem kinds_good (W : World) (v : Value) (x : Nat × (Nat → Int × Int × Int)) (h : Steps W v x) (hn : x.1 ≤ 200) :
    Calls Try.prog 7 #[v] W fun e w' => e = .returned (.bool true) ∧ Below W.heap.size W w' := by
  obtain ⟨n, f⟩ := x
  obtain ⟨⟨sa, cap, rfl, h1, h2, hsl⟩, hwf⟩ := h
  simp only at hn h1 h2 hsl
  have HSL := Lib.hid hsl
  clear hsl hwf
  have t0 := turned_alloc (turned_refl W []) (.cells #[.string ⟨#[97]⟩, .string ⟨#[98]⟩, .string ⟨#[]⟩, .string ⟨#[100]⟩] 9)
  have oN := obj.new W 9 NAMES
  have B0 := Lib.hid (below_turned (Below.refl W.heap.size W) t0 (by simp))
  have ON := Lib.hid oN
  clear t0 oN
  have d0 : decide ((200 : Int) < (n : Int)) = false := decide_eq_false (by omega)
  go_enter Try.func7, Try.ntmps7
  go_wp2_with fail
  refine (tnewI _).mono ?_
  rintro e w1 ⟨rfl, r1, g1⟩
  have hB0 := B0.out.size
  have H1 := Lib.hid (show heldI W w1 _ 0 [] from ⟨_, r1, fun k hk => by simp at hk; simp at hB0; omega, below_none B0.out g1⟩)
  have O1 := Lib.hid (ON.out.past (turned_none (L := []) g1) (by simp))
  generalize hga : (W.alloc (.cells #[.string ⟨#[97]⟩, .string ⟨#[98]⟩, .string ⟨#[]⟩, .string ⟨#[100]⟩] 9)).heap.size + 1 = a at *
  clear r1 g1
  go_wp2_with fail
  refine (duo_new H1.out).mono ?_
  rintro e w2 ⟨rfl, F, G, q1, q2, q3, q4, q5, t2⟩
  have Q1 := Lib.hid q1
  have Q2 := Lib.hid q2
  have Q3 := Lib.hid q3
  have Q4 := Lib.hid q4
  have Q5 := Lib.hid q5
  have O2 := Lib.hid (O1.out.past t2 (by simp))
  generalize w1.heap.size + 1 = b at *
  clear q1 q2 q3 q4 q5 t2 hga
  go_wp2_with fail
  refine (tri_new Q5.out Q1.out Q2.out Q3.out Q4.out).mono ?_
  rintro e w3 ⟨rfl, q3, t3⟩
  have H3 := Lib.hid q3
  have O3 := Lib.hid (O2.out.past t3 (by simp))
  generalize w2.heap.size + 1 = c at *
  clear q3 t3 Q1 Q2 Q3 Q4 Q5
  go_wp2_with fail
  go_loopw [7] (fun i wr => KiRel W a b c W.heap.size n i wr) (fun i _ => n - (intOf i).toNat)
  case atStart => exact ⟨0, [], Nat.zero_le _, rfl, H3.out, O3.out⟩
  case round =>
    clear H3 O3
    obtain ⟨j, L, hj, rfl, htri, hobj⟩ := hrel
    have HT := Lib.hid htri
    have HO := Lib.hid hobj
    clear htri hobj
    by_cases hlt : j < n
    · have hcells : ∃ b0 off, sa = some ⟨b0, off, none⟩ ∧ b0 < W.heap.size ∧ W.cell? ⟨b0, off + j * 3, none⟩ = some (.int .i64 (f j).1) ∧ W.cell? ⟨b0, off + j * 3 + 1, none⟩ = some (.int .i64 (f j).2.1) ∧ W.cell? ⟨b0, off + j * 3 + 2, none⟩ = some (.int .i64 (f j).2.2) := by
        rcases HSL.out with h | ⟨b0, off, e, hb0, hc⟩
        · omega
        · exact ⟨b0, off, e, hb0, hc j 0 hlt (by omega), hc j 1 hlt (by omega), hc j 2 hlt (by omega)⟩
      obtain ⟨b0, off, rfl, hb0, hk0, hk1, hk2⟩ := hcells
      generalize (f j).1 = kd at hk0
      generalize (f j).2.1 = kx at hk1
      generalize (f j).2.2 = at_ at hk2
      obtain ⟨k, hk⟩ := and3 kx
      have K2 := Lib.hid hk2
      have c0 := HT.out.old hk0 hb0
      have c1 := HT.out.old hk1 hb0
      have c2 := HT.out.old hk2 hb0
      have hnum : num k = ((k.val : Nat) : Int) := rfl
      rw [hnum] at hk
      have hk3 : k.val ≤ 3 := by have := k.isLt; omega
      have hk4 : (0 : Int) ≤ (k.val : Int) := by omega
      have hk5 : (k.val : Int) < 4 := by omega
      have hbl : b0 < wr.heap.size := by have := HT.out.below.size; omega
      clear hk0 hk1 hk2 hnum
      rcases (show kd = 0 ∨ kd = 1 ∨ kd = 3 ∨ (kd ≠ 0 ∧ kd ≠ 1 ∧ kd ≠ 3) by omega) with rfl | rfl | rfl | ⟨e0, e1, e3⟩
      · go_wp2_with fail
        generalize hwp : wr.alloc _ = wp
        have PB0 := Lib.hid (newK_of hwp)
        have tp : turned wr wp [] := by rw [← hwp]; exact turned_alloc (turned_refl wr []) _
        have H0 := Lib.hid (HT.out.stay tp)
        have OB0 := Lib.hid (HO.out.past tp (by simp))
        clear hwp tp c0 c1 c2
        have c2 := H0.out.old K2.out hb0
        refine (tri_setI H0.out (num k) at_ (ok_num k) (by omega)).mono ?_
        rintro e x1 ⟨rfl, h1, k1⟩
        have H1 := Lib.hid h1
        have OB1 := Lib.hid (k1 _ _ _ (by decide) (by decide) (by decide) OB0.out)
        have PB1 := Lib.hid (k1 _ _ _ (by decide) (by decide) (by decide) PB0.out)
        clear h1 k1
        clear c2
        have c2 := H1.out.old K2.out hb0
        have n1 := OB1.out.cell k.val (names_at k)
        go_wp2_with fail
        go_region_held3 (fun w' => w'.cell? ⟨W.heap.size, k.val, none⟩ = some (.string (nam k)) ∧ w'.cell? ⟨b0, off + j * 3 + 2, none⟩ = some (.int .i64 at_)) (first | (simp [go_sem, *]; done) | assumption) (first
          | (go_at_call 28; ((refine (tri_setS (H1.out.stay (turned_drew _ [])) (nam k) at_ (ok_nam k) (by omega)).mono ?_)); rintro e x2 ⟨rfl, h2, k2⟩; have OB1d := Lib.hid (OB1.out.drew); have PB1d := Lib.hid (PB1.out.drew); have H2 := Lib.hid h2; have OB2 := Lib.hid (k2 _ _ _ (by decide) (by decide) (by decide) OB1d.out); have PB2 := Lib.hid (k2 _ _ _ (by decide) (by decide) (by decide) PB1d.out); clear h2 k2 c2 n1; have c2 := H2.out.old K2.out hb0; have n1 := OB2.out.cell k.val (names_at k)))
        clear n1
        have p0 := PB2.out.cell 0 rfl
        have p1 := PB2.out.cell 1 rfl
        go_wp2_with fail
        go_region_held3 (fun w' => w'.cell? ⟨wr.heap.size, 0, none⟩ = some (.int .u16 ((k.val : Int) / 2)) ∧ w'.cell? ⟨wr.heap.size, 1, none⟩ = some (.int .u16 ((k.val : Int) % 2)) ∧ w'.cell? ⟨b0, off + j * 3 + 2, none⟩ = some (.int .i64 at_)) (first | (simp [go_sem, *]; done) | assumption) (first
          | (go_at_call 29; ((refine (tri_setK (H2.out.stay (turned_drew _ [])) (par k) at_ (ok_par k) (by omega)).mono ?_)); rintro e x3 ⟨rfl, h3, k3⟩; have OB2d := Lib.hid (OB2.out.drew); have PB2d := Lib.hid (PB2.out.drew); have H3 := Lib.hid h3; have OB3 := Lib.hid (k3 _ _ _ (by decide) (by decide) (by decide) OB2d.out); have PB3 := Lib.hid (k3 _ _ _ (by decide) (by decide) (by decide) PB2d.out); clear h3 k3 c2 p0 p1; have c2 := H3.out.old K2.out hb0; have p0 := PB3.out.cell 0 rfl; have p1 := PB3.out.cell 1 rfl))
        clear c2 p0 p1
        go_wp2_with fail
        go_roundw
        case rel => exact ⟨j + 1, drp k L ++ [(k, at_)], by omega, by go_num, H3.out.val (by rw [ren_drp num num_inj, ren_snoc]) (by rw [ren_drp nam nam_inj, ren_snoc]) (by rw [ren_drp par par_inj, ren_snoc]) (Nat.le_refl _) (Nat.le_refl _) (Nat.le_refl _), OB3.out⟩
        case measure => simp only [intOf]; omega
      · go_wp2_with fail
        generalize hwp : wr.alloc _ = wp
        have PB0 := Lib.hid (newK_of hwp)
        have tp : turned wr wp [] := by rw [← hwp]; exact turned_alloc (turned_refl wr []) _
        have H0 := Lib.hid (HT.out.stay tp)
        have OB0 := Lib.hid (HO.out.past tp (by simp))
        clear hwp tp c0 c1 c2
        obtain ⟨bb, hbb⟩ : ∃ bb, decide (∃ x, x ∈ L ∧ x.1 = k) = bb := ⟨_, rfl⟩
        refine (tri_stopI H0.out (num k) (ok_num k)).mono ?_
        rintro e x1 ⟨rfl, h1, k1⟩
        rw [ren_has num num_inj, hbb]
        have H1 := Lib.hid h1
        have OB1 := Lib.hid (k1 _ _ _ (by decide) (by decide) (by decide) OB0.out)
        have PB1 := Lib.hid (k1 _ _ _ (by decide) (by decide) (by decide) PB0.out)
        clear h1 k1
        have n1 := OB1.out.cell k.val (names_at k)
        go_wp2_with fail
        refine (tri_stopS H1.out (nam k) (ok_nam k)).mono ?_
        rintro e x2 ⟨rfl, h2, k2⟩
        rw [ren_has nam nam_inj, hbb]
        have H2 := Lib.hid h2
        have OB2 := Lib.hid (k2 _ _ _ (by decide) (by decide) (by decide) OB1.out)
        have PB2 := Lib.hid (k2 _ _ _ (by decide) (by decide) (by decide) PB1.out)
        clear h2 k2
        clear n1
        have p0 := PB2.out.cell 0 rfl
        have p1 := PB2.out.cell 1 rfl
        go_wp2_with fail
        refine (tri_stopK H2.out (par k) (ok_par k)).mono ?_
        rintro e x3 ⟨rfl, h3, k3⟩
        rw [ren_has par par_inj, hbb]
        have H3 := Lib.hid h3
        have OB3 := Lib.hid (k3 _ _ _ (by decide) (by decide) (by decide) OB2.out)
        have PB3 := Lib.hid (k3 _ _ _ (by decide) (by decide) (by decide) PB2.out)
        clear h3 k3
        clear p0 p1
        go_wp2_with fail
        go_roundw
        case rel => exact ⟨j + 1, drp k L, by omega, by go_num, H3.out.val (ren_drp num num_inj k L) (ren_drp nam nam_inj k L) (ren_drp par par_inj k L) (Nat.le_succ _) (Nat.le_succ _) (Nat.le_succ _), OB3.out⟩
        case measure => simp only [intOf]; omega
      · cases hpo : popO at_ L with
        | none =>
          go_wp2_with fail
          generalize hwp : wr.alloc _ = wp
          have PB0 := Lib.hid (newK_of hwp)
          have tp : turned wr wp [] := by rw [← hwp]; exact turned_alloc (turned_refl wr []) _
          have H0 := Lib.hid (HT.out.stay tp)
          have OB0 := Lib.hid (HO.out.past tp (by simp))
          clear hwp tp c0 c1 c2
          have c2 := H0.out.old K2.out hb0
          have E1 := pop_renI at_ L
          have E2 := pop_renS at_ L
          have E3 := pop_renK at_ L
          rw [hpo] at E1 E2 E3
          have M1 := Lib.hid E1
          have M2 := Lib.hid E2
          have M3 := Lib.hid E3
          clear E1 E2 E3
          refine (tri_popI H0.out at_).mono ?_
          rintro e x1 ⟨rfl, h1, k1⟩
          rw [M1.out.2]
          have H1 := Lib.hid h1
          have OB1 := Lib.hid (k1 _ _ _ (by decide) (by decide) (by decide) OB0.out)
          have PB1 := Lib.hid (k1 _ _ _ (by decide) (by decide) (by decide) PB0.out)
          clear h1 k1
          clear c2
          have c2 := H1.out.old K2.out hb0
          dsimp only
          unfold mkI
          go_wp2_with fail
          refine (tri_popS H1.out at_).mono ?_
          rintro e x2 ⟨rfl, h2, k2⟩
          rw [M2.out.2]
          have H2 := Lib.hid h2
          have OB2 := Lib.hid (k2 _ _ _ (by decide) (by decide) (by decide) OB1.out)
          have PB2 := Lib.hid (k2 _ _ _ (by decide) (by decide) (by decide) PB1.out)
          clear h2 k2
          clear c2
          have c2 := H2.out.old K2.out hb0
          dsimp only
          unfold mkS
          go_wp2_with fail
          refine (tri_popK H2.out at_).mono ?_
          rintro e x3 ⟨rfl, h3, k3⟩
          rw [M3.out.2]
          have H3 := Lib.hid h3
          have OB3 := Lib.hid (k3 _ _ _ (by decide) (by decide) (by decide) OB2.out)
          have PB3 := Lib.hid (k3 _ _ _ (by decide) (by decide) (by decide) PB2.out)
          clear h3 k3
          clear c2
          dsimp only
          unfold mkK
          go_wp2_with fail
          go_roundw
          case rel => exact ⟨j + 1, popF at_ L, by omega, by go_num, (H3.out.val M1.out.1 M2.out.1 M3.out.1 (Nat.le_succ _) (Nat.le_succ _) (Nat.le_succ _)).stay (turned_alloc (turned_refl x3 []) _), OB3.out.alloc _⟩
          case measure => simp only [intOf]; omega
        | some q =>
          go_wp2_with fail
          generalize hwp : wr.alloc _ = wp
          have PB0 := Lib.hid (newK_of hwp)
          have tp : turned wr wp [] := by rw [← hwp]; exact turned_alloc (turned_refl wr []) _
          have H0 := Lib.hid (HT.out.stay tp)
          have OB0 := Lib.hid (HO.out.past tp (by simp))
          clear hwp tp c0 c1 c2
          have c2 := H0.out.old K2.out hb0
          have E1 := pop_renI at_ L
          have E2 := pop_renS at_ L
          have E3 := pop_renK at_ L
          rw [hpo] at E1 E2 E3
          have M1 := Lib.hid E1
          have M2 := Lib.hid E2
          have M3 := Lib.hid E3
          clear E1 E2 E3
          refine (tri_popI H0.out at_).mono ?_
          rintro e x1 ⟨rfl, h1, k1⟩
          rw [M1.out.2]
          have H1 := Lib.hid h1
          have OB1 := Lib.hid (k1 _ _ _ (by decide) (by decide) (by decide) OB0.out)
          have PB1 := Lib.hid (k1 _ _ _ (by decide) (by decide) (by decide) PB0.out)
          clear h1 k1
          clear c2
          have c2 := H1.out.old K2.out hb0
          dsimp only
          unfold mkI
          go_wp2_with fail
          refine (tri_popS H1.out at_).mono ?_
          rintro e x2 ⟨rfl, h2, k2⟩
          rw [M2.out.2]
          have H2 := Lib.hid h2
          have OB2 := Lib.hid (k2 _ _ _ (by decide) (by decide) (by decide) OB1.out)
          have PB2 := Lib.hid (k2 _ _ _ (by decide) (by decide) (by decide) PB1.out)
          clear h2 k2
          clear c2
          have c2 := H2.out.old K2.out hb0
          dsimp only
          unfold mkS
          go_wp2_with fail
          refine (tri_popK H2.out at_).mono ?_
          rintro e x3 ⟨rfl, h3, k3⟩
          rw [M3.out.2]
          have H3 := Lib.hid h3
          have OB3 := Lib.hid (k3 _ _ _ (by decide) (by decide) (by decide) OB2.out)
          have PB3 := Lib.hid (k3 _ _ _ (by decide) (by decide) (by decide) PB2.out)
          clear h3 k3
          clear c2
          dsimp only
          unfold mkK
          unfold num par
          have n1 := OB3.out.cell q.val (names_at q)
          have hqa := and3k q
          unfold num at hqa
          have hq3 : q.val ≤ 3 := by have := q.isLt; omega
          have hq4 : (0 : Int) ≤ (q.val : Int) := by omega
          have hq5 : (q.val : Int) < 4 := by omega
          have hnl := OB3.out.lt
          go_wp2_with fail
          go_roundw
          case rel => exact ⟨j + 1, popF at_ L, by omega, by go_num, (H3.out.val M1.out.1 M2.out.1 M3.out.1 (Nat.le_succ _) (Nat.le_succ _) (Nat.le_succ _)).stay (turned_alloc (turned_refl x3 []) _), OB3.out.alloc _⟩
          case measure => simp only [intOf]; omega
      · have e0' : (kd == 0) = false := beq_eq_false_iff_ne.2 e0
        have e1' : (kd == 1) = false := beq_eq_false_iff_ne.2 e1
        have e3' : (kd == 3) = false := beq_eq_false_iff_ne.2 e3
        clear e0 e1 e3
        go_wp2_with fail
        go_roundw
        case rel => exact ⟨j + 1, L, by omega, by go_num, (HT.out.val rfl rfl rfl (Nat.le_succ _) (Nat.le_succ _) (Nat.le_succ _)).stay (turned_alloc (turned_refl wr []) _), HO.out.alloc _⟩
        case measure => simp only [intOf]; omega
    · go_wp2_with fail
      refine (tri_lenI HT.out).mono ?_
      rintro e x1 ⟨rfl, rfl⟩
      rw [ren_len]
      go_wp2_with fail
      refine (tri_lenS HT.out).mono ?_
      rintro e x1 ⟨rfl, rfl⟩
      rw [ren_len]
      go_wp2_with fail
      refine (tri_lenI HT.out).mono ?_
      rintro e x1 ⟨rfl, rfl⟩
      rw [ren_len]
      go_wp2_with fail
      refine (tri_lenK HT.out).mono ?_
      rintro e x1 ⟨rfl, rfl⟩
      rw [ren_len]
      go_wp2_with fail
      refine (works_any _).mono ?_
      rintro e x1 ⟨rfl, g9⟩
      go_wp2
      go_ret
      exact ⟨rfl, HT.out.below.trans (g9.mono HT.out.below.size)⟩
set_option maxRecDepth 100000 in
set_option maxHeartbeats 1000000 in
theorem timersKinds.walk (W : World) (v : Value) (x : Nat × (Nat → Int × Int × Int)) (h : Steps W v x) :
    Calls Try.prog 7 #[v] W fun e w' => e = .returned (.bool true) ∧ Below W.heap.size W w' := by
  by_cases hn : x.1 ≤ 200
  · exact kinds_good W v x h hn
  · obtain ⟨n, f⟩ := x
    obtain ⟨⟨sa, cap, rfl, h1, h2, hsl⟩, hwf⟩ := h
    have hn' : ¬ n ≤ 200 := hn
    have h1' : n ≤ cap := h1
    clear hsl hwf hn h1
    have d0 : decide ((200 : Int) < (n : Int)) = true := decide_eq_true (by omega)
    go_enter Try.func7, Try.ntmps7
    go_wp2_with fail
    refine (works_any _).mono ?_
    rintro e x1 ⟨rfl, g9⟩
    go_wp2
    go_ret
    exact ⟨rfl, g9⟩
end Go.Proofs.Ytebdnciehobfaaa
