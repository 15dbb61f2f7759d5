/- Apart's walk. Conditions: the rows lie in blocks of their own, each with all its room. -/
import Derived.Test.YtcfpgeceenkheaaFragApart
namespace Go.Proofs.Ytcfpgeceenkheaa
open Go.RowKit Go.Deep
set_option linter.unusedVariables false
set_option linter.unusedSimpArgs false

set_option maxRecDepth 100000 in
set_option maxHeartbeats 4000000 in
theorem apart (rv : Value) (R : List PT) (base : Nat) (w : World) (hr : w.ownsRow base 23 1 rv R.length (flat cPT R)) (hd : ∀ i j (hi : i < R.length) (hj : j < R.length), i ≠ j → (R[i]'hi).g ≠ (R[j]'hj).g) (hok : ∀ x, x ∈ R → x.ok w) (hm : R.length ≤ 1000) :
    Calls Try.prog 17 #[rv] w fun e w' => e = .returned (.bool true) ∧ turned w w' (R.map PT.g) := by
  obtain ⟨ra, rc, rfl, hc1, hc2, hra⟩ := row_form hr
  obtain ⟨m, hmm⟩ : ∃ m, R.length = m := ⟨_, rfl⟩
  have HR := Lib.hid hr
  have HD := Lib.hid hd
  have HOK := Lib.hid hok
  have HM := Lib.hid hmm
  have HRA := Lib.hid hra
  have HRG := Lib.hid (show ∀ w', turned w w' (R.map PT.g) → w'.ownsRow base 23 1 (.slice ra R.length rc) R.length (flat cPT R) from fun w' t => row_past hr t (fun q hq e => by
    obtain ⟨x, hx, e2⟩ := List.mem_map.1 e
    exact row_ne hr (hok x hx).o (by decide) (by rw [hq, e2])))
  rw [hmm] at hc1 hm ⊢
  clear hr hd hok hmm hra
  go_enter Try.func17, Try.ntmps17
  go_wp2_with fail
  go_loopw [3, 4] (fun fv iv wr => ∃ i : Nat, i ≤ m ∧ iv = .int .i64 (i : Int) ∧ fv = .bool true ∧ (∀ x, x ∈ R → x.ok wr) ∧ turned w wr (R.map PT.g)) (fun _ iv _ => m - (intOf iv).toNat)
  case atStart => exact ⟨0, Nat.zero_le _, rfl, rfl, HOK.out, turned_refl _ _⟩
  case round =>
    obtain ⟨i, hi, rfl, rfl, hok, tw⟩ := hrel
    have HO := Lib.hid hok
    have TW := Lib.hid tw
    clear hok tw
    by_cases hlt : i < m
    · obtain ⟨gr, rfl⟩ := HRA.out (by rw [HM.out]; omega)
      have hiR : i < R.length := by rw [HM.out]; exact hlt
      obtain ⟨x, hx⟩ : ∃ x, R[i]'hiR = x := ⟨_, rfl⟩
      have hxm : x ∈ R := hx ▸ List.getElem_mem hiR
      have HX := Lib.hid hx
      have HXM := Lib.hid hxm
      have hcell : ∀ w' , turned w w' (R.map PT.g) → ∀ k (hk : k < R.length), w'.cell? ⟨gr, k, none⟩ = some (.slice (some ⟨(R[k]'hk).g, 0, none⟩) (R[k]'hk).n (R[k]'hk).c) := fun w' t k hk => by
        have h1 := HRG.out w' t
        refine (h1.cellAt k (by omega)).trans ?_
        have e := flat_at cPT_len R k hk 0 (by omega)
        rw [Nat.mul_one, Nat.add_zero] at e
        rw [e]
        rfl
      have HCELL := Lib.hid hcell
      have hii : (i : Int) < (m : Int) := by omega
      have hi0 : (0 : Int) ≤ (i : Int) := by omega
      obtain ⟨wo, hwo⟩ : ∃ wo, wo = wr := ⟨_, rfl⟩
      subst hwo
      obtain ⟨i1, hi1, hy0, hy1, hy2⟩ := info_parts infoStr
      clear hx hxm hcell
      go_wp2_with fail
      go_loopw [5, 6] (fun wv kv wq => ∃ k : Nat, k ≤ m ∧ kv = .int .i64 (k : Int) ∧ wq.ownsRow wo.heap.size 9 1 wv k (flat cS ((R.take k).map (fun x => strOfNums x.B))) ∧ turned wo wq []) (fun _ kv _ => m - (intOf kv).toNat)
      case atStart => exact ⟨0, Nat.zero_le _, rfl, World.ownsRow_nil _ _ _ _, turned_refl _ _⟩
      case round =>
        obtain ⟨k, hk, rfl, hrow, tq⟩ := hrel
        obtain ⟨sa, sc, rfl, _, _, hsa⟩ := row_form hrow
        have HROW := Lib.hid hrow
        have TQ := Lib.hid tq
        have HSA := Lib.hid hsa
        have tall : turned w wr (R.map PT.g) := turned_trans TW.out (turned_more tq (by simp))
        have TALL := Lib.hid tall
        have HO2 := Lib.hid (fun y (hy : y ∈ R) => (HO.out y hy).past tq (by simp))
        clear hrow tq tall hsa
        by_cases hlt2 : k < m
        · have hkR : k < R.length := by rw [HM.out]; exact hlt2
          have c0 := HCELL.out wr TALL.out k hkR
          have hcv := conv_lies (HO2.out _ (List.getElem_mem hkR)).lies
          have htk : (R.take (k + 1)).map (fun x => strOfNums x.B) = (R.take k).map (fun x => strOfNums x.B) ++ [strOfNums (R[k]'hkR).B] := by rw [List.take_succ_eq_append_getElem hkR, List.map_append]; rfl
          have HTK := Lib.hid htk
          have hki : (k : Int) < (m : Int) := by omega
          have hk0 : (0 : Int) ≤ (k : Int) := by omega
          have tl := turned_alloc (turned_refl wr []) (.cells #[.string (strOfNums (R[k]'hkR).B)] 9)
          have HL := Lib.hid (show Lies (wr.alloc (.cells #[.string (strOfNums (R[k]'hkR).B)] 9)) 1 (.slice (some ⟨wr.heap.size, 0, none⟩) 1 1) 1 (flat cS [strOfNums (R[k]'hkR).B]) from
            Lies.row (World.ownsRow_lit (base := wr.heap.size) (e := 9) (size := 1) wr #[.string (strOfNums (R[k]'hkR).B)] 1 (Nat.le_refl _) (by decide) (by simp)))
          have HRL := Lib.hid (row_past HROW.out tl (by simp))
          have HBS := Lib.hid (show wo.heap.size ≤ (wr.alloc (.cells #[.string (strOfNums (R[k]'hkR).B)] 9)).heap.size from (turned_trans TQ.out tl).2.2.2.1)
          have TL := Lib.hid tl
          generalize strOfNums (R[k]'hkR).B = str at *
          generalize R[k]'hkR = y at *
          clear tl htk
          go_wp2_with (first | (at_builtin; go_loud (refine wpList_append_lies' _ rfl _ _ 59 rfl wo.heap.size 9 i1 (.string .empty) 1 16 Try.underlying59 hi1 hy0 hy1 hy2 rfl (by decide) _ _ _ rfl HRL.out (.slice (some ⟨wr.heap.size, 0, none⟩) 1 1) 1 (flat cS [str]) rfl HL.out (flat_one cS_one _) (by unfold maxLen; omega) (by omega) HBS.out ?_; intro v' wA ha hg hl'; have HA := Lib.hid ha; have TA := Lib.hid (turned_new (turned_trans TQ.out TL.out) hg (fun q e => (row_lt HROW.out q e).1)); clear ha hg hl')) | fail)
          go_roundw
          case rel => exact ⟨k + 1, by omega, by go_num, by rw [HTK.out, flat_app]; exact HA.out, TA.out⟩
          case measure => simp only [intOf]; omega
        · have hkm : k = m := by omega
          subst hkm
          have hnl : ¬ (k : Int) < (k : Int) := by omega
          have c0 := HCELL.out wr TALL.out i hiR
          rw [HX.out] at c0
          have hxo := HO2.out x HXM.out
          have HXO := Lib.hid hxo
          obtain ⟨w1, hw1⟩ : ∃ w1, w1 = wr := ⟨_, rfl⟩
          subst hw1
          clear hxo
          go_wp2_with fail
          refine (whole_ x _ HXO.out).mono ?_
          rintro e w2 ⟨rfl, rfl⟩
          have hxl := HXO.out.l
          have hxc := HXO.out.c
          go_wp2_with fail
          obtain ⟨g, nx, c, G⟩ := x
          simp only at hxl hxc
          have hG := HXO.out.b
          have HG := Lib.hid hG
          have O0 := Lib.hid HXO.out.o
          simp only at HG O0
          clear hG
          go_loopw [8] (fun nv wq => ∃ n : Nat, n ≤ c ∧ nv = .int .i64 (n : Int) ∧ obj wq g 5 (flat cB (flp G n)) ∧ turned w1 wq [g]) (fun nv _ => c - (intOf nv).toNat)
          case atStart => exact ⟨0, Nat.zero_le _, rfl, O0.out, turned_refl _ _⟩
          case round =>
            obtain ⟨n, hn, rfl, ho, tn⟩ := hrel
            have HO3 := Lib.hid ho
            have TN := Lib.hid tn
            clear ho tn
            by_cases hlt3 : n < c
            · have hnG : n < G.length := by omega
              have x0 := HO3.out.byte n (by rw [flp_len]; exact hnG)
              rw [flp_at G n hnG] at x0
              have y0 := HO3.out.free n
              obtain ⟨hz0, hz1⟩ := HG.out _ (List.getElem_mem hnG)
              have hs := HO3.out.setByte n (by rw [flp_len]; exact hnG) (255 - G[n]'hnG)
              rw [flp_set G n hnG] at hs
              have HS := Lib.hid hs
              generalize G[n]'hnG = z at *
              have nz := not_u8 z ⟨hz0, hz1⟩
              have hni : (n : Int) < (c : Int) := by omega
              have hn0 : (0 : Int) ≤ (n : Int) := by omega
              have hwn : IntKind.i64.wrap ((n : Int) + 1) = (n : Int) + 1 := IntWalk.i64_in _ (by omega)
              clear hs
              go_wp2_with fail
              go_roundw
              case rel => exact ⟨n + 1, by omega, by go_num, HS.out, turned_set TN.out (by simp) _⟩
              case measure => simp only [intOf]; omega
            · have hnc : n = c := by omega
              subst hnc
              have hnl3 : ¬ (n : Int) < (n : Int) := by omega
              obtain ⟨w2, hw2⟩ : ∃ w2, w2 = wr := ⟨_, rfl⟩
              subst hw2
              -- the other rows, whatever is turned
              have hoth : ∀ w', turned w1 w' [g] → ∀ j (hj : j < R.length), j ≠ i → (R[j]'hj).ok w' := fun w' t j hj hji => (HO2.out _ (List.getElem_mem hj)).past t (fun e => HD.out j i hj hiR hji (by rw [HX.out]; exact List.mem_singleton.1 e))
              have HOTH := Lib.hid hoth
              have htn := fun w' (t : turned w1 w' [g]) => (turned_trans TALL.out (turned_more t (fun q hq => by rw [List.mem_singleton.1 hq]; exact List.mem_map.2 ⟨_, HXM.out, rfl⟩)) : turned w w' (R.map PT.g))
              have HTN := Lib.hid htn
              have hwas := fun w' (t : turned w1 w' [g]) => row_past HROW.out t (fun q hq e => by
                have h1 := row_ne HROW.out (HO2.out _ HXM.out).o (by decide)
                exact h1 (by rw [hq, List.mem_singleton.1 e]))
              have HWAS := Lib.hid hwas
              clear hoth htn hwas
              obtain ⟨gs, rfl⟩ := HSA.out (by omega)
              go_wp2_with fail
              go_loopw [3, 9] (fun fv kv wq => ∃ q : Nat, q ≤ k ∧ kv = .int .i64 (q : Int) ∧ fv = .bool true ∧ ∃ p, wq = w2.drewN p) (fun _ kv _ => k - (intOf kv).toNat)
              case atStart => exact ⟨0, Nat.zero_le _, rfl, rfl, 0, rfl⟩
              case round =>
                obtain ⟨q, hq, rfl, rfl, p, rfl⟩ := hrel
                have tq2 : turned w1 (w2.drewN p) [g] := turned_trans TN.out (turned_drewN _ _ _)
                have TQ2 := Lib.hid tq2
                clear tq2
                by_cases hlt4 : q < k
                · have hqR : q < R.length := by rw [HM.out]; exact hlt4
                  have hqi : (q : Int) < (k : Int) := by omega
                  have hq0 : (0 : Int) ≤ (q : Int) := by omega
                  have hwq : IntKind.i64.wrap ((q : Int) + 1) = (q : Int) + 1 := IntWalk.i64_in _ (by omega)
                  by_cases hqe : q = i
                  · have dq : ((q : Int) == (i : Int)) = true := by simp [hqe]
                    go_wp2_with fail
                    go_quiet (fail)
                    go_wp2_with fail
                    go_roundw
                    case rel => exact ⟨q + 1, by omega, by go_num, rfl, _, rfl⟩
                    case measure => simp only [intOf]; omega
                  · have dq : ((q : Int) == (i : Int)) = false := beq_eq_false_iff_ne.2 (by omega)
                    have c0 := HCELL.out w2 (HTN.out _ TN.out) q hqR
                    have hcv : ∀ mm, (convert 23 9 (.slice (some ⟨(R[q]'hqR).g, 0, none⟩) (R[q]'hqR).n (R[q]'hqR).c)).run Try.prog (w2.drewN mm) = .ok (.string (strOfNums (R[q]'hqR).B)) (w2.drewN mm) := fun mm => conv_lies (HOTH.out _ (turned_trans TN.out (turned_drewN _ mm _)) q hqR hqe).lies
                    have s0 : w2.cell? ⟨gs, q, none⟩ = some (.string (strOfNums (R[q]'hqR).B)) := by
                      have h1 := HWAS.out _ TN.out
                      refine (h1.cellAt q (by omega)).trans ?_
                      have hql : q < ((R.take k).map (fun x => strOfNums x.B)).length := by rw [List.length_map, List.length_take]; omega
                      have e := flat_at cS_len ((R.take k).map (fun x => strOfNums x.B)) q hql 0 (by omega)
                      rw [Nat.mul_one, Nat.add_zero] at e
                      rw [e]
                      simp [cS]
                    have hsb : ((strOfNums (R[q]'hqR).B).toList == (strOfNums (R[q]'hqR).B).toList) = true := by simp
                    generalize strOfNums (R[q]'hqR).B = str at *
                    generalize R[q]'hqR = y at *
                    go_wp2_with fail
                    go_quiet (fail)
                    go_wp2_with fail
                    go_roundw
                    case rel => exact ⟨q + 1, by omega, by go_num, rfl, _, rfl⟩
                    case measure => simp only [intOf]; omega
                · have hqk : q = k := by omega
                  subst hqk
                  have hnl4 : ¬ (q : Int) < (q : Int) := by omega
                  have O3 := Lib.hid (show obj (w2.drewN p) g 5 (flat cB (flq G n 0)) from HO3.out)
                  obtain ⟨w3, hw3⟩ : ∃ w3, w2.drewN p = w3 := ⟨_, rfl⟩
                  rw [hw3] at O3 TQ2 ⊢
                  clear hw3
                  go_wp2_with fail
                  go_loopw [10] (fun nv wq => ∃ k : Nat, k ≤ n ∧ nv = .int .i64 (k : Int) ∧ obj wq g 5 (flat cB (flq G n k)) ∧ turned w1 wq [g]) (fun nv _ => n - (intOf nv).toNat)
                  case atStart => exact ⟨0, Nat.zero_le _, rfl, O3.out, TQ2.out⟩
                  case round =>
                    obtain ⟨k, hk, rfl, ho, tk⟩ := hrel
                    have HO5 := Lib.hid ho
                    have TK := Lib.hid tk
                    clear ho tk
                    by_cases hlt5 : k < n
                    · have hkG : k < G.length := by omega
                      have x0 := HO5.out.byte k (by rw [flq_len]; exact hkG)
                      rw [flq_at G n k hkG hlt5] at x0
                      have y0 := HO5.out.free k
                      obtain ⟨hz0, hz1⟩ := HG.out _ (List.getElem_mem hkG)
                      have hs := HO5.out.setByte k (by rw [flq_len]; exact hkG) (G[k]'hkG)
                      rw [flq_set G n k hkG hlt5] at hs
                      have HS := Lib.hid hs
                      generalize G[k]'hkG = z at *
                      have nz : bits BinOp.xor IntKind.u8 (if IntKind.u8.signed = true then -1 else IntKind.u8.max) (255 - z) = z := by rw [not_u8 (255 - z) (by omega)]; omega
                      have hni : (k : Int) < (n : Int) := by omega
                      have hn0 : (0 : Int) ≤ (k : Int) := by omega
                      have hwn : IntKind.i64.wrap ((k : Int) + 1) = (k : Int) + 1 := IntWalk.i64_in _ (by omega)
                      clear hs
                      go_wp2_with fail
                      go_roundw
                      case rel => exact ⟨k + 1, by omega, by go_num, HS.out, turned_set TK.out (by simp) _⟩
                      case measure => simp only [intOf]; omega
                    · have hkn : k = n := by omega
                      subst hkn
                      have hnl5 : ¬ (k : Int) < (k : Int) := by omega
                      have o5 := HO5.out
                      rw [flq_end] at o5
                      have hokk : ∀ y, y ∈ R → y.ok wr := fun y hy => by
                        obtain ⟨j, hj, rfl⟩ := List.getElem_of_mem hy
                        by_cases hji : j = i
                        · subst hji
                          rw [HX.out]
                          exact ⟨o5, HXO.out.b, HXO.out.n, HXO.out.c, HXO.out.l⟩
                        · exact HOTH.out wr TK.out j hj hji
                      have HOKK := Lib.hid hokk
                      have TFIN := Lib.hid (HTN.out wr TK.out)
                      have hwi : IntKind.i64.wrap ((i : Int) + 1) = (i : Int) + 1 := IntWalk.i64_in _ (by omega)
                      clear o5 hokk
                      go_wp2_with fail
                      go_roundw
                      case rel => exact ⟨i + 1, by omega, by go_num, rfl, HOKK.out, TFIN.out⟩
                      case measure => simp only [intOf]; omega
    · have him : i = m := by omega
      subst him
      have hnl : ¬ (i : Int) < (i : Int) := by omega
      go_wp2_with fail
      go_ret
      exact ⟨rfl, TW.out⟩
end Go.Proofs.Ytcfpgeceenkheaa
