/- The anchor of chapter 20: the walk. No condition. -/
import Derived.Test.YtibnjakiagcopaaOutqWorks
namespace Go.Proofs.Ytibnjakiagcopaa
open Go.RowKit Go.Deep
set_option linter.unusedVariables false
set_option linter.unusedSimpArgs false

set_option maxRecDepth 100000 in
set_option maxHeartbeats 4000000 in
theorem works20 (w : World) : Calls Try.prog 15 #[] w fun e w' => e = .returned (.bool true) ∧ turned w w' [] := by
  have hnew := fun w => (onew 2 10 (by omega) (by omega) w : Calls Try.prog 9 #[.int .i64 2, .int .i64 10] w _)
  go_enter Try.func15, Try.ntmps15
  go_wp2_with fail
  refine (hnew _).mono ?_
  rintro e w1 ⟨g, F1, rfl, h1, f1, t1⟩
  have H1 := Lib.hid (show Own w w1 g F1 (newQ 2 10) from ⟨h1, f1, t1⟩)
  clear h1 f1 t1 hnew
  have hc := Lib.run_convert_bytes_const (P := Try.prog) w1 29 5 #[.int .u8 97, .int .u8 98, .int .u8 99, .int .u8 100] 4 4 Try.underlying29 Try.underlying5
  go_wp2_with fail
  clear hc
  have hL := lit_lies w1 [97, 98, 99, 100] (4, 5) (by intro x hx; simp at hx; omega) (by decide)
  have tL := turned_alloc (turned_refl w1 []) (.cells (flat cB [97, 98, 99, 100]).toArray 5 (4, 5))
  refine (oput_own g _ (newQ 2 10) W2 0 0 true _ [97, 98, 99, 100] 0 w _ (H1.out.past tL) (newQ_ok 2 10 (by omega) (by omega) 0) (by omega) hL (by decide) (by omega) (by omega) rfl e2 0 rfl).mono ?_
  rintro e w2 ⟨rfl, F2, hh, gg, tt⟩
  have H2 := Lib.hid hh
  clear hh gg tt hL tL
  have hc := Lib.run_convert_bytes_const (P := Try.prog) w2 29 5 #[.int .u8 101, .int .u8 102, .int .u8 103] 3 3 Try.underlying29 Try.underlying5
  go_wp2_with fail
  clear hc
  have hL := lit_lies w2 [101, 102, 103] (3, 4) (by intro x hx; simp at hx; omega) (by decide)
  have tL := turned_alloc (turned_refl w2 []) (.cells (flat cB [101, 102, 103]).toArray 5 (3, 4))
  refine (oput_own g _ W2 W3 1 0 true _ [101, 102, 103] 5 w _ (H2.out.past tL) ok2 (by omega) hL (by decide) (by omega) (by omega) rfl e3 1 rfl).mono ?_
  rintro e w3 ⟨rfl, F3, hh, gg, tt⟩
  have H3 := Lib.hid hh
  clear hh gg tt hL tL
  have hc := Lib.run_convert_bytes_const (P := Try.prog) w3 29 5 #[.int .u8 120, .int .u8 120, .int .u8 120, .int .u8 120] 4 4 Try.underlying29 Try.underlying5
  go_wp2_with fail
  clear hc
  have hL := lit_lies w3 [120, 120, 120, 120] (4, 5) (by intro x hx; simp at hx; omega) (by decide)
  have tL := turned_alloc (turned_refl w3 []) (.cells (flat cB [120, 120, 120, 120]).toArray 5 (4, 5))
  refine (oput_bad g _ W3 2 1 false _ [120, 120, 120, 120] 0 w _ (H3.out.past tL) ok3 hL (by decide) (by omega) 6 rfl (by decide)).mono ?_
  rintro e w4 ⟨rfl, hh, tt⟩
  have H4 := Lib.hid hh
  clear hh tt hL tL
  go_wp2_with fail
  refine (onext_own g _ W3 W4 2 3 ⟨0, true, [97, 98, 99, 100], 0, 0, 0, 0⟩ [⟨0, true, [101, 102, 103], 1, 5, 0, 0⟩] 3 ⟨0, 0, 0, false, true, false, [97, 98, 99]⟩ w w4 H4.out ok3 (by omega) rfl (by omega) rfl e4 rfl).mono ?_
  rintro e w5 ⟨a5, c5, rfl, _, hr5, hl5, hq5, F5, hh5, hs5, tt5⟩
  have H5 := Lib.hid hh5
  have R5 := Lib.hid hr5
  have L5 := Lib.hid hl5
  have Q5 := Lib.hid (fun q hq (e : q ∈ F5) => hq5 q hq (hs5 q e))
  clear hr5 hl5 hq5 hh5 hs5 tt5
  have hD := obj.new w5 34 [.int .u32 0, .int .u16 0, .int .u16 0, .bool false, .bool true, .bool false, .slice a5 3 c5]
  have tD := turned_alloc (turned_refl w5 []) (.cells #[.int .u32 0, .int .u16 0, .int .u16 0, .bool false, .bool true, .bool false, .slice a5 3 c5] 34)
  have HD := Lib.hid hD
  have TD := Lib.hid tD
  clear hD tD
  go_wp2_with fail
  refine (oexpire_own g _ W4 W5 2 9 ⟨3, 0, 0, false, false, [], 0⟩ w _ (H5.out.past TD.out) ok4 (by omega) e5 rfl).mono ?_
  rintro e w6 ⟨a6, c6, rfl, hr6, hq6, F6, hh6, hs6, tt6⟩
  have H6 := Lib.hid hh6
  have D6 := Lib.hid ((H5.out.past TD.out).1.data HD.out tt6)
  have L6 := Lib.hid (show LiesB w6 (.slice a5 3 c5) [97, 98, 99] from ⟨Lies.row (row_past (row_past R5.out TD.out (by simp)) tt6 Q5.out), L5.out.2⟩)
  clear hr6 hq6 hh6 hs6 tt6 HD
  have hDn := obj.new w6 34 [.int .u32 0, .int .u16 0, .int .u16 0, .bool false, .bool false, .bool false, .slice a6 0 c6]
  have tDn := turned_alloc (turned_refl w6 []) (.cells #[.int .u32 0, .int .u16 0, .int .u16 0, .bool false, .bool false, .bool false, .slice a6 0 c6] 34)
  have hd6 := D6.out.past tDn (by simp)
  have m4 := hd6.cell 4 rfl
  have m5 := hd6.cell 5 rfl
  have m6 := hd6.cell 6 rfl
  have hs : (convert 29 9 (.slice a5 3 c5)).run Try.prog _ = .ok (.string { data := #[97, 98, 99] }) _ := conv_lies (L6.out.none_ tDn)
  have H7 := Lib.hid (H6.out.past tDn)
  have D7 := Lib.hid hd6
  clear hDn tDn hd6
  go_wp2_with fail
  refine (oused g _ W5 _ H7.out.1).mono ?_
  rintro e w7 ⟨rfl, rfl⟩
  go_wp2_with fail
  clear hs m4 m5 m6
  refine (onext_own g _ W5 W6 2 3 ⟨0, true, [97, 98, 99, 100], 0, 0, 3, 0⟩ [] 1 ⟨0, 0, 0, false, false, true, [100]⟩ w _ H7.out ok5 (by omega) rfl (by omega) rfl e6 rfl).mono ?_
  rintro e w8 ⟨a8, c8, rfl, _, hr8, hl8, hq8, F8, hh8, hs8, tt8⟩
  have H8 := Lib.hid hh8
  have D8 := Lib.hid (H7.out.1.data D7.out tt8)
  clear hr8 hl8 hq8 hh8 hs8 tt8
  go_wp2_with (first | (refine wpList_store_row rfl _ _ _ rfl w5.heap.size #[.int .u32 0, .int .u16 0, .int .u16 0, .bool false, .bool false, .bool true, .slice a8 1 c8] rfl rfl 34 _ D8.out (by kernel_rfl) rfl (by rw [← Array.all_toList]; rfl) ?_; have ts := turned_setRow w8 w5.heap.size #[.int .u32 0, .int .u16 0, .int .u16 0, .bool false, .bool false, .bool true, .slice a8 1 c8]; have hD9 := setRow_heap w8 w5.heap.size _ #[.int .u32 0, .int .u16 0, .int .u16 0, .bool false, .bool false, .bool true, .slice a8 1 c8] _ _ D8.out; have H9 := Lib.hid (H8.out.apart ts (fun k hk => by rw [List.mem_singleton.1 hk]; exact ⟨H5.out.2.2.2.2.2.1, H8.out.1.ne D8.out (by decide) (by decide) (by decide) (by decide) (by decide)⟩)); generalize w8.setRow w5.heap.size #[.int .u32 0, .int .u16 0, .int .u16 0, .bool false, .bool false, .bool true, .slice a8 1 c8] = w9 at hD9 H9 ts ⊢; have D9 := Lib.hid (show obj w9 w5.heap.size 34 [.int .u32 0, .int .u16 0, .int .u16 0, .bool false, .bool false, .bool true, .slice a8 1 c8] from hD9); clear hD9 ts) | fail)
  refine (onext_none g _ W6 2 3 _ H9.out.1 ok6 (by omega) (.inl rfl)).mono ?_
  rintro e w10 ⟨rfl, tt⟩
  have H10 := Lib.hid ((H9.out.past tt).past (turned_alloc (turned_refl w10 []) (.cells #[.int .u32 0, .int .u16 0, .int .u16 0, .bool false, .bool false, .bool false, .slice none 0 0] 34)))
  have D10 := Lib.hid ((D9.out.past tt (by simp)).past (turned_alloc (turned_refl w10 []) (.cells #[.int .u32 0, .int .u16 0, .int .u16 0, .bool false, .bool false, .bool false, .slice none 0 0] 34)) (by simp))
  clear tt
  unfold noData
  go_wp2_with fail
  refine (ofree_own g _ W6 W7 2 4 w _ H10.out ok6 e7).mono ?_
  rintro e w11 ⟨rfl, hh, tt⟩
  have H11 := Lib.hid hh
  have D11 := Lib.hid (H10.out.1.data D10.out tt)
  clear hh tt
  have hc := Lib.run_convert_bytes_const (P := Try.prog) w11 29 5 #[.int .u8 104] 1 1 Try.underlying29 Try.underlying5
  go_wp2_with fail
  clear hc
  have hL := lit_lies w11 [104] (1, 2) (by intro x hx; simp at hx; omega) (by decide)
  have tL := turned_alloc (turned_refl w11 []) (.cells (flat cB [104]).toArray 5 (1, 2))
  refine (oput_own g _ W7 W8 2 0 true _ [104] 7 w _ (H11.out.past tL) ok7 (by omega) hL (by decide) (by omega) (by omega) rfl e8 2 rfl).mono ?_
  rintro e w12 ⟨rfl, F12, hh, gg, tt⟩
  have H12 := Lib.hid hh
  have D12 := Lib.hid ((H11.out.past tL).1.data (D11.out.past tL (by simp)) tt)
  clear hh gg tt hL tL
  go_wp2_with fail
  refine (onext_own g _ W8 W9 3 9 ⟨0, true, [104], 2, 7, 0, 0⟩ [] 1 ⟨0, 0, 1, false, true, true, [104]⟩ w _ H12.out ok8 (by omega) rfl (by omega) rfl e9 rfl).mono ?_
  rintro e w13 ⟨a12, c12, rfl, _, hr, hl, hq, F13, hh, hs, tt⟩
  have tn := turned_alloc (turned_refl w13 []) (.cells #[.int .u32 0, .int .u16 0, .int .u16 1, .bool false, .bool true, .bool true, .slice a12 1 c12] 34)
  have hn := obj.new w13 34 [.int .u32 0, .int .u16 0, .int .u16 1, .bool false, .bool true, .bool true, .slice a12 1 c12]
  have H13 := Lib.hid (hh.past tn)
  have hd := (H12.out.1.data D12.out tt).past tn (by simp)
  have m5 := hd.cell 5 rfl
  have n2 := hn.cell 2 rfl
  have n4 := hn.cell 4 rfl
  have n5 := hn.cell 5 rfl
  clear hr hl hq hh hs tt tn hn hd
  go_wp2_with fail
  refine (osize g _ W9 3 _ H13.out.1 ok9).mono ?_
  rintro e w14 ⟨rfl, q, rfl⟩
  have hsz : ((QS.size W9 : Nat) : Int) = 0 := rfl
  rw [hsz]
  go_wp2_with fail
  go_ret
  exact ⟨rfl, turned_drewN' q H13.out.2.2⟩
end Go.Proofs.Ytibnjakiagcopaa
