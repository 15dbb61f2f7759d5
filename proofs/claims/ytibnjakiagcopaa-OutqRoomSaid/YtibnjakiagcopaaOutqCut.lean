/- The walk of OutqCut. No condition. -/
import Derived.Test.YtibnjakiagcopaaOutqCutP
namespace Go.Proofs.Ytibnjakiagcopaa
open Go.RowKit Go.Deep
set_option linter.unusedVariables false
set_option linter.unusedSimpArgs false

theorem osame_yes (a : DD) (va vb : Value) (w : World) (ha : LiesB w va a.B) (hb : LiesB w vb a.B) :
    Calls Try.prog 13 #[.agg #[.int .u32 a.t, .int .u16 a.s, .int .u16 a.n, .bool a.u, .bool a.f, .bool a.l, va], .agg #[.int .u32 a.t, .int .u16 a.s, .int .u16 a.n, .bool a.u, .bool a.f, .bool a.l, vb]] w fun e w' => e = .returned (.bool true) ∧ turned w w' [] := by
  refine (osame a a va vb w ha hb).mono ?_
  rintro e w' ⟨rfl, t⟩
  exact ⟨by simp, t⟩
theorem oused_own (g : Nat) (F : List Nat) (S : QS) (w0 w : World) (h : Own w0 w g F S) (u : Int) (hu : S.used = u) :
    Calls Try.prog 14 #[.pointer (some ⟨g, 0, none⟩)] w fun e w' => e = .returned (.int .i64 u) ∧ w = w' := by
  subst hu
  exact oused g F S w h.1
set_option maxRecDepth 100000 in
set_option maxHeartbeats 4000000 in
theorem outqCut.walk (W : World) (lo : Int) (wl : (Lit.int .u16 lo).wf = true) (ta : Int) (wt : (Lit.int .u16 ta).wf = true) (un : Int) (wu : (Lit.int .u8 un).wf = true) (no : Int) (wn : (Lit.int .u8 no).wf = true) :
    Calls Try.prog 3 #[.int .u16 lo, .int .u16 ta, .int .u8 un, .int .u8 no] W fun e w' => e = .returned (.bool true) ∧ Below W.heap.size W w' := by
  have hl := bounds_u16 wl
  have ht := bounds_u16 wt
  have hu := bounds_u8 wu
  have hno := bounds_u8 wn
  clear wl wt wu wn
  obtain ⟨n, hn⟩ : ∃ n : Nat, (n : Int) = 2 + lo % 300 := ⟨(2 + lo % 300).toNat, by omega⟩
  have hn2 : 2 ≤ n ∧ n ≤ 301 := by omega
  have hm0 : (n : Int) - 1 ≠ 0 := by omega
  obtain ⟨k, hk⟩ : ∃ k : Nat, (k : Int) = 1 + ta % ((n : Int) - 1) := ⟨(1 + ta % ((n : Int) - 1)).toNat, by have := Int.emod_nonneg ta hm0; omega⟩
  have hkn : 1 ≤ k ∧ k < n := by have h1 := Int.emod_nonneg ta hm0; have h2 := Int.emod_lt_of_pos ta (show 0 < (n : Int) - 1 by omega); omega
  have v1 : IntKind.i64.wrap lo = lo := IntWalk.i64_in _ (by omega)
  have v2 : IntKind.i64.wrap ta = ta := IntWalk.i64_in _ (by omega)
  have v3 : IntKind.i64.wrap un = un := IntWalk.i64_in _ (by omega)
  have v4 : IntKind.i64.wrap no = no := IntWalk.i64_in _ (by omega)
  have v5 : 2 + lo % 300 = (n : Int) := hn.symm
  have v6 : 1 + ta % ((n : Int) - 1) = (k : Int) := hk.symm
  have v7 : lo.tmod 300 = lo % 300 := Int.tmod_eq_emod_of_nonneg (by omega)
  have v8 : ta.tmod ((n : Int) - 1) = ta % ((n : Int) - 1) := Int.tmod_eq_emod_of_nonneg (by omega)
  have hmk := make_u8 n (by omega)
  rw [made_flat] at hmk
  have hmk' := hmk
  clear hmk
  have HN := Lib.hid hn
  have HK := Lib.hid hk
  clear hn hk
  have hnew := fun w => (onew 1 1000 (by omega) (by omega) w : Calls Try.prog 9 #[.int .i64 1, .int .i64 1000] w _)
  go_enter Try.func3, Try.ntmps3
  go_wp2_with fail
  refine (hnew _).mono ?_
  rintro e w1 ⟨g, F1, rfl, h1, f1, t1⟩
  have H1 := Lib.hid (show Own W w1 g F1 (newQ 1 1000) from ⟨h1, f1, t1⟩)
  clear h1 f1 t1 hnew
  go_wp2_with fail
  have hL := lit_lies w1 (List.replicate n 0) (0, 0) (zeros n) (by simp; omega)
  rw [List.length_replicate] at hL
  have tL := turned_alloc (turned_refl w1 []) (.cells (flat cB (List.replicate n 0)).toArray 5)
  refine (oput_own g _ (newQ 1 1000) (C2 n un) 0 0 true _ (List.replicate n 0) un W _ (H1.out.past tL) (newQ_ok 1 1000 (by omega) (by omega) 0) (by omega) hL (by simp; omega) (by omega) (by omega) (by simp [QS.err, newQ]; omega) (c2 n un) 0 rfl).mono ?_
  rintro e w2 ⟨rfl, F2, hh, gg, tt⟩
  have H2 := Lib.hid hh
  clear hh gg tt hL tL hmk'
  go_wp2_with fail
  have hL := lit_lies w2 [7] (0, 0) (by intro x hx; simp at hx; omega) (by decide)
  have tL := turned_alloc (turned_refl w2 []) (.cells (flat cB [7]).toArray 5)
  refine (oput_own g _ (C2 n un) (C3 n un) 1 0 true _ [7] 0 W _ (H2.out.past tL) (okc2 n un hn2 hu) (by omega) hL (by decide) (by omega) (by omega) (by simp [QS.err, C2]; omega) (c3 n un) 1 rfl).mono ?_
  rintro e w3 ⟨rfl, F3, hh, gg, tt⟩
  have H3 := Lib.hid hh
  clear hh gg tt hL tL
  go_wp2_with fail
  have O3 := Lib.hid (okc3 n un hn2 hu)
  have O4 := Lib.hid (okc4 n un k hn2 hu hkn.2)
  have E4 := Lib.hid (c4 n un k hkn.2)
  have P4 := Lib.hid (show (C3 n un).piece (x0 n un 0) k = ⟨0, 0, 0, false, true, false, List.replicate k 0⟩ by simp [QS.piece, QS.num, C3, x0]; omega)
  have M4 := Lib.hid (show (k : Int) = min (k : Int) ((x0 n un 0).left : Int) by simp [IT.left, x0]; omega)
  refine (onext_own g _ (C3 n un) (C4 n un k) 2 (k : Int) (x0 n un 0) [x1] k ⟨0, 0, 0, false, true, false, List.replicate k 0⟩ W w3 H3.out O3.out (by omega) rfl (by omega) M4.out E4.out P4.out).mono ?_
  rintro e w5 ⟨a5, c5, rfl, _, hr5, hl5, hq5, F5, hh5, hs5, tt5⟩
  have H5 := Lib.hid (hh5.past (turned_alloc (turned_refl w5 []) (.cells #[.int .u32 0, .int .u16 0, .int .u16 0, .bool false, .bool true, .bool false, .slice a5 k c5] 34)))
  have D5 := Lib.hid (obj.new w5 34 [.int .u32 0, .int .u16 0, .int .u16 0, .bool false, .bool true, .bool false, .slice a5 k c5])
  have hD5 := H5.out.2.2.2.2.2.1
  have hW5 : W.heap.size ≤ w5.heap.size := hh5.2.2.2.2.2.1
  clear hr5 hl5 hq5 hh5 hs5 tt5 hD5
  have e0 : (x0 n un 0).id = 0 := rfl
  rw [e0]
  have m6 := D5.out.cell 6 rfl
  go_wp2_with fail
  by_cases hcut : 1 ≤ un ∧ un ≤ no
  · obtain ⟨q1, q2⟩ := Go.Proofs.Ytibnjakiagcopaa.c5 n un k no hkn.2 hkn.1 hcut
    refine (oexpire_own g _ (C4 n un k) (C5 k) 2 no ⟨(n : Int) - k - 1, 0, 0, false, true, [0], 0⟩ W _ H5.out O4.out (by omega) q2 q1).mono ?_
    rintro e w6 ⟨a6, c6, rfl, hr6, hq6, F6, hh6, hs6, tt6⟩
    have D6 := Lib.hid (H5.out.1.data D5.out tt6)
    have ta := (turned_alloc (turned_refl w6 []) (.cells #[.int .u32 0, .int .u16 0, .int .u16 0, .bool false, .bool false, .bool true, .slice a6 1 c6] 34))
    have tb := turned_alloc ta (.cells #[.int .u8 0] 5)
    have l6 : LiesB w6 (.slice a6 1 c6) [0] := ⟨Lies.row hr6, by intro x hx; simp at hx; omega⟩
    have L6 := Lib.hid (show LiesB _ (.slice a6 1 c6) [0] from LiesB.none_ l6 tb)
    clear l6
    have l7 := lit_lies (w6.alloc (.cells #[.int .u32 0, .int .u16 0, .int .u16 0, .bool false, .bool false, .bool true, .slice a6 1 c6] 34)) [0] (0, 0) (by intro x hx; simp at hx; omega) (by decide)
    rw [World.size_alloc] at l7
    have L7 := Lib.hid (show LiesB ((w6.alloc (.cells #[.int .u32 0, .int .u16 0, .int .u16 0, .bool false, .bool false, .bool true, .slice a6 1 c6] 34)).alloc (.cells #[.int .u8 0] 5)) (.slice (some ⟨w6.heap.size + 1, 0, none⟩) 1 1) [0] from l7)
    clear l7
    have H6 := Lib.hid (hh6.past tb)
    have D7 := Lib.hid (D6.out.past tb (by simp))
    have O5 := Lib.hid (okc5 n un k no hn2 hu hkn.2 hkn.1 hcut)
    clear hr6 hq6 hh6 hs6 tt6 ta tb q1 q2 m6
    have g1 : decide (0 < un) = true := decide_eq_true (by omega)
    have g2 : decide (un ≤ no) = true := decide_eq_true (by omega)
    go_wp2_with fail
    refine (osame_yes ⟨0, 0, 0, false, false, true, [0]⟩ (.slice a6 1 c6) _ _ L6.out L7.out).mono ?_
    rintro e w7 ⟨rfl, tt⟩
    have H7 := Lib.hid (H6.out.past tt)
    have D8 := Lib.hid (D7.out.past tt (by simp))
    clear tt
    go_wp2_with fail
    refine (oexpire_own g _ (C5 k) (C5 k) 2 no XS.zero W _ H7.out O5.out (by omega) (c5a k no).2 (c5a k no).1).mono ?_
    rintro e w8 ⟨a8, c8, rfl, hr6, hq6, F8, hh8, hs6, tt8⟩
    have H8 := Lib.hid (hh8.past (turned_alloc (turned_refl w8 []) (.cells #[.int .u32 0, .int .u16 0, .int .u16 0, .bool false, .bool false, .bool false, .slice a8 0 c8] 34)))
    have D9 := Lib.hid ((H7.out.1.data D8.out tt8).past (turned_alloc (turned_refl w8 []) (.cells #[.int .u32 0, .int .u16 0, .int .u16 0, .bool false, .bool false, .bool false, .slice a8 0 c8] 34)) (by simp))
    clear hr6 hq6 hh8 hs6 tt8
    unfold XS.zero
    go_wp2_with fail
    refine (onext_own g _ (C5 k) (C6 k) 2 (n : Int) x1 [] 1 ⟨0, 0, 1, false, true, true, [7]⟩ W _ H8.out O5.out (by omega) rfl (by omega) (by show (1 : Int) = min (n : Int) 1; omega) (Go.Proofs.Ytibnjakiagcopaa.c6 k) rfl).mono ?_
    rintro e w9 ⟨a9, c9, rfl, _, hr9, hl9, hq9, F9, hh9, hs9, tt9⟩
    have D10 := Lib.hid (H8.out.1.data D9.out tt9)
    have H9 := Lib.hid hh9
    obtain ⟨_, _, e9, _, _, hf9⟩ := row_form hr9
    cases e9
    obtain ⟨r9, rfl⟩ := hf9 (by omega)
    have RR := Lib.hid hr9
    clear hr9 hl9 hq9 hh9 hs9 tt9 hf9
    have ex : x1.id = 1 := rfl
    rw [ex]
    have w2k : IntKind.i64.wrap ((k : Int) + 2) = (k : Int) + 2 := IntWalk.i64_in _ (by omega)
    go_wp2_with (first | (refine wpList_store_row rfl _ _ _ rfl w5.heap.size #[.int .u32 0, .int .u16 0, .int .u16 1, .bool false, .bool true, .bool true, .slice (some ⟨r9, 0, none⟩) 1 c9] rfl rfl 34 _ D10.out (by kernel_rfl) rfl (by rw [← Array.all_toList]; rfl) ?_; have ts := turned_setRow w9 w5.heap.size #[.int .u32 0, .int .u16 0, .int .u16 1, .bool false, .bool true, .bool true, .slice (some ⟨r9, 0, none⟩) 1 c9]; have hDn := setRow_heap w9 w5.heap.size _ #[.int .u32 0, .int .u16 0, .int .u16 1, .bool false, .bool true, .bool true, .slice (some ⟨r9, 0, none⟩) 1 c9] _ _ D10.out; have H11 := Lib.hid (H9.out.apart ts (fun k hk => by rw [List.mem_singleton.1 hk]; exact ⟨hW5, H9.out.1.ne D10.out (by decide) (by decide) (by decide) (by decide) (by decide)⟩)); have R11 := Lib.hid (row_past RR.out ts (fun q hq e => row_ne RR.out D10.out (by decide) (by rw [hq, List.mem_singleton.1 e]))); generalize w9.setRow w5.heap.size #[.int .u32 0, .int .u16 0, .int .u16 1, .bool false, .bool true, .bool true, .slice (some ⟨r9, 0, none⟩) 1 c9] = w11 at hDn H11 R11 ts ⊢; have D11 := Lib.hid (show obj w11 w5.heap.size 34 [.int .u32 0, .int .u16 0, .int .u16 1, .bool false, .bool true, .bool true, .slice (some ⟨r9, 0, none⟩) 1 c9] from hDn); clear hDn ts; have m2 := D11.out.cell 2 rfl; have m5 := D11.out.cell 5 rfl; have m6 := D11.out.cell 6 rfl; have m7 := R11.out.cellAt 0 (by decide); have m8 : w11.cell? ⟨r9, 0, none⟩ = some (.int .u8 7) := m7; clear m7) | fail)
    refine (oused_own g _ (C6 k) W _ H11.out _ rfl).mono ?_
    rintro e w12 ⟨rfl, rfl⟩
    have eu : (C6 k).used = (k : Int) + 2 := rfl
    rw [eu]
    go_wp2_with fail
    refine (works20 _).mono ?_
    rintro e w13 ⟨rfl, tt⟩
    go_wp2_with fail
    go_ret
    exact ⟨rfl, below_turned (Below.refl _ _) (turned_trans H11.out.2.2 tt) (by simp)⟩
  · obtain ⟨q1, q2⟩ := c5n n un k no hcut
    refine (oexpire_own g _ (C4 n un k) (C4 n un k) 2 no XS.zero W _ H5.out O4.out (by omega) q2 q1).mono ?_
    rintro e w6 ⟨a6, c6, rfl, hr6, hq6, F6, hh6, hs6, tt6⟩
    have ta := (turned_alloc (turned_refl w6 []) (.cells #[.int .u32 0, .int .u16 0, .int .u16 0, .bool false, .bool false, .bool false, .slice a6 0 c6] 34))
    have D7 := Lib.hid ((H5.out.1.data D5.out tt6).past ta (by simp))
    have H7 := Lib.hid (hh6.past ta)
    clear hr6 hq6 hh6 hs6 tt6 ta m6
    unfold XS.zero
    have FIN : Calls Try.prog 12 #[.pointer (some ⟨g, 0, none⟩), .int .i64 no] _ _ := oexpire_own g _ (C4 n un k) (C4 n un k) 2 no XS.zero W _ H7.out O4.out (by omega) q2 q1
    have FI := Lib.hid FIN
    clear FIN q1 q2
    have hg : (decide (0 < un) = false) ∨ (decide (0 < un) = true ∧ decide (un ≤ no) = false) := by
      by_cases h : 0 < un
      · exact .inr ⟨decide_eq_true h, decide_eq_false (fun h2 => hcut ⟨by omega, h2⟩)⟩
      · exact .inl (decide_eq_false h)
    have P9 := Lib.hid (show (C4 n un k).piece (x0 n un k) (n - k) = ⟨0, 0, 0, false, false, true, List.replicate (n - k) 0⟩ by have h2 : ¬ k = 0 := (by omega); have h3 : k + (n - k) = n := (by omega); simp [QS.piece, QS.num, C4, x0, h2, h3])
    have M9 := Lib.hid (show ((n - k : Nat) : Int) = min (n : Int) ((x0 n un k).left : Int) by simp [IT.left, x0]; omega)
    have E9 := Lib.hid (c7 n un k hkn.2 hkn.1)
    have w2k : IntKind.i64.wrap ((n : Int) + 1) = (n : Int) + 1 := IntWalk.i64_in _ (by omega)
    have w3k : IntKind.i64.wrap ((n : Int) - (k : Int)) = (n : Int) - (k : Int) := IntWalk.i64_in _ (by omega)
    have w4k : ((n - k : Nat) : Int) = (n : Int) - (k : Int) := by omega
    have W4K := Lib.hid w4k
    clear w4k
    rcases hg with g1 | ⟨g1, g2⟩
    all_goals
      go_wp2_with fail
      refine FI.out.mono ?_
      rintro e w8 ⟨a8, c8, rfl, hr6, hq6, F8, hh8, hs6, tt8⟩
      have H8 := Lib.hid (hh8.past (turned_alloc (turned_refl w8 []) (.cells #[.int .u32 0, .int .u16 0, .int .u16 0, .bool false, .bool false, .bool false, .slice a8 0 c8] 34)))
      have D9 := Lib.hid ((H7.out.1.data D7.out tt8).past (turned_alloc (turned_refl w8 []) (.cells #[.int .u32 0, .int .u16 0, .int .u16 0, .bool false, .bool false, .bool false, .slice a8 0 c8] 34)) (by simp))
      clear hr6 hq6 hh8 hs6 tt8
      unfold XS.zero
      go_wp2_with fail
      refine (onext_own g _ (C4 n un k) (C7 n) 2 (n : Int) (x0 n un k) [x1] (n - k) ⟨0, 0, 0, false, false, true, List.replicate (n - k) 0⟩ W _ H8.out O4.out (by omega) rfl (by omega) M9.out E9.out P9.out).mono ?_
      rintro e w9 ⟨a9, c9, rfl, _, hr9, hl9, hq9, F9, hh9, hs9, tt9⟩
      have D10 := Lib.hid (H8.out.1.data D9.out tt9)
      have H9 := Lib.hid hh9
      have RR := Lib.hid hr9
      clear hr9 hl9 hq9 hh9 hs9 tt9
      have ex : (x0 n un k).id = 0 := rfl
      rw [ex]
      have w5k : (((n - k : Nat) : Int) == (n : Int) - (k : Int)) = true := by rw [W4K.out]; simp
      go_wp2_with (first | (refine wpList_store_row rfl _ _ _ rfl w5.heap.size #[.int .u32 0, .int .u16 0, .int .u16 0, .bool false, .bool false, .bool true, .slice a9 (n - k) c9] rfl rfl 34 _ D10.out (by kernel_rfl) rfl (by rw [← Array.all_toList]; rfl) ?_; have ts := turned_setRow w9 w5.heap.size #[.int .u32 0, .int .u16 0, .int .u16 0, .bool false, .bool false, .bool true, .slice a9 (n - k) c9]; have hDn := setRow_heap w9 w5.heap.size _ #[.int .u32 0, .int .u16 0, .int .u16 0, .bool false, .bool false, .bool true, .slice a9 (n - k) c9] _ _ D10.out; have H11 := Lib.hid (H9.out.apart ts (fun k hk => by rw [List.mem_singleton.1 hk]; exact ⟨hW5, H9.out.1.ne D10.out (by decide) (by decide) (by decide) (by decide) (by decide)⟩)); have R11 := Lib.hid (row_past RR.out ts (fun q hq e => row_ne RR.out D10.out (by decide) (by rw [hq, List.mem_singleton.1 e]))); generalize w9.setRow w5.heap.size #[.int .u32 0, .int .u16 0, .int .u16 0, .bool false, .bool false, .bool true, .slice a9 (n - k) c9] = w11 at hDn H11 R11 ts ⊢; have D11 := Lib.hid (show obj w11 w5.heap.size 34 [.int .u32 0, .int .u16 0, .int .u16 0, .bool false, .bool false, .bool true, .slice a9 (n - k) c9] from hDn); clear hDn ts; have m2 := D11.out.cell 2 rfl; have m5 := D11.out.cell 5 rfl; have m6 := D11.out.cell 6 rfl) | fail)
      refine (oused_own g _ (C7 n) W _ H11.out _ rfl).mono ?_
      rintro e w12 ⟨rfl, rfl⟩
      have eu : (C7 n).used = (n : Int) + 1 := rfl
      rw [eu]
      go_wp2_with fail
      refine (works20 _).mono ?_
      rintro e w13 ⟨rfl, tt⟩
      go_wp2_with fail
      go_ret
      exact ⟨rfl, below_turned (Below.refl _ _) (turned_trans H11.out.2.2 tt) (by simp)⟩
end Go.Proofs.Ytibnjakiagcopaa
