/- The walk of DelayWhen. No condition. -/
import Derived.Test.YtpapdcembpceaaaDelayHurries
namespace Go.Proofs.Ytpapdcembpceaaa
open Go.RowKit Go.ChangeShapes Go.WideShapes Go.Deep
set_option linter.unusedVariables false
set_option linter.unusedSimpArgs false

theorem packet_ex (x : DS) (hok : x.ok) (b : Nat) (now : Int) (u : Bool) (w : World) (hx : obj w b 45 x.cells) :
    Calls Try.prog 12 #[.pointer (some ⟨b, 0, none⟩), .int .i64 now, .bool u] w fun e w' => e = .returned (.tuple #[]) ∧ ∃ sn : DS, sn.ok ∧ sn.many = min (x.many + 1) 2 ∧ sn.urgent = (x.urgent || u) ∧ obj w' b 45 sn.cells ∧ w.grownBy w' (some b) :=
  (packet_any x hok b now u w hx).mono fun _ _ ⟨h1, h2, h3⟩ => ⟨h1, x.packet now u, dok_packet hok now u, rfl, rfl, h2, h3⟩

theorem none_some {x : DS} (h : x.many = 0) : x.some = false ∧ x.at = 0 ∧ x.due 4611686018427387904 = false := by simp [DS.some, DS.at, DS.due, h]
theorem any_some {x : DS} (hok : x.ok) (h : 0 < x.many) : x.some = true ∧ (0 ≤ x.at ∧ x.at ≤ 2305843009214742528) ∧ x.due x.at = true := by
  unfold DS.ok at hok
  refine ⟨by simp [DS.some]; omega, ?_, ?_⟩
  · unfold DS.at; split <;> (try split) <;> omega
  · have ha : x.at = if x.urgent = true ∨ 1 < x.many then x.first else x.first + x.ticks := by unfold DS.at; rw [if_neg (by omega)]
    have key : 0 < x.many ∧ (x.urgent = true ∨ 1 < x.many ∨ x.first + x.ticks ≤ x.at) := by
      refine ⟨h, ?_⟩
      by_cases hu : x.urgent = true ∨ 1 < x.many
      · rcases hu with hu | hu
        · exact Or.inl hu
        · exact Or.inr (Or.inl hu)
      · rw [ha, if_neg hu]
        exact Or.inr (Or.inr (Int.le_refl _))
    simp only [DS.due, decide_eq_true_eq]
    exact key
theorem one_ahead {x : DS} (h : x.many = 1) (hu : x.urgent = false) : x.due (x.at - 1) = false := by
  simp [DS.due, DS.at, h, hu]
  omega

def WRel (W : World) (b1 n : Nat) (some hurry i : Value) (wr : World) : Prop :=
  ∃ (k s : Nat) (hu : Bool) (st : DS), k ≤ n ∧ s ≤ k ∧ i = .int .i64 (k : Int) ∧ some = .int .i64 (s : Int) ∧ hurry = .bool hu ∧ st.ok ∧ st.many = min (s : Int) 2 ∧ st.urgent = hu ∧ obj wr b1 45 st.cells ∧ Below W.heap.size W wr

set_option maxRecDepth 100000 in
set_option maxHeartbeats 16000000 in
theorem when_good (t : Int) (hf : 0 ≤ t ∧ t ≤ 1048576) (v : Value) (x : Nat × (Nat → Int) × (Nat → Int) × (Nat → Bool)) (W : World) (ho : Ops W v x) (hn : x.1 ≤ 300) :
    Calls Try.prog 5 #[.int .i64 t, v] W fun e w' => e = .returned (.bool true) ∧ Below W.heap.size W w' := by
  obtain ⟨n, ks, ts, us⟩ := x
  obtain ⟨⟨a, cap, rfl, hcap, hcap2, hsl⟩, hts⟩ := ho
  simp only at hn hts hsl hcap
  have HSL := Lib.hid hsl
  have HTS := Lib.hid hts
  have HF := Lib.hid hf
  clear hsl hts hf
  go_enter Try.func5, Try.ntmps5
  go_wp2_with fail
  refine (new_any t HF.out _).mono ?_
  rintro e w1 ⟨rfl, o1, g1⟩
  have O1 := Lib.hid o1
  have G1 := Lib.hid g1
  clear o1 g1
  go_wp2_with fail
  have hlt1 := O1.out.lt
  go_loopw [7, 8, 9] (fun s h i wr => WRel W W.heap.size n s h i wr) (fun _ _ i _ => n - (intOf i).toNat)
  case atStart =>
    exact ⟨0, 0, false, DS.init t, Nat.zero_le _, Nat.le_refl _, rfl, rfl, rfl, dok_init HF.out, rfl, rfl, O1.out, below_none (Below.refl _ _) G1.out⟩
  case round =>
    obtain ⟨k, s, hu, st, hk, hsk, rfl, rfl, rfl, hok, hmany, hurg, h1, hbel⟩ := hrel
    have HOK := Lib.hid hok
    have HM := Lib.hid hmany
    have HU := Lib.hid hurg
    have H1 := Lib.hid h1
    have HB := Lib.hid hbel
    clear hok h1 hbel hmany hurg
    by_cases hlt : k < n
    · rcases HSL.out with h0 | ⟨b, off, rfl, hb, hc⟩
      · omega
      have hr0 := sl_cell (hc k 0 hlt (by decide)) hb HB.out
      have hr1 := sl_cell (hc k 1 hlt (by decide)) hb HB.out
      have hr2 := sl_cell (hc k 2 hlt (by decide)) hb HB.out
      simp at hr0 hr1 hr2
      have ht := (HTS.out k hlt).2
      have hbne : b ≠ W.heap.size := by omega
      clear hc
      go_upto_region 9 with (fail)
      go_cut [10] (fun s10 wc => ∃ N : Int, s10 = .int .i64 N ∧ wr = wc)
      case first =>
        by_cases m1 : ts k < 0
        · go_wp2_with fail
          go_meet
          exact ⟨_, rfl, rfl⟩
        · by_cases m2 : 2305843009213693952 < ts k
          · go_wp2_with fail
            go_meet
            exact ⟨_, rfl, rfl⟩
          · go_wp2_with fail
            go_meet
            exact ⟨_, rfl, rfl⟩
      case rest =>
        obtain ⟨N, rfl, rfl⟩ := hcut
        by_cases k0 : ks k = 0
        · rw [k0] at hr0
          clear k0
          have X : True := trivial
          cases hu
          · cases huk : us k
            · rw [huk] at hr2
              clear huk
              go_wp2_with fail
              refine (packet_ex st HOK.out _ _ _ _ H1.out).mono ?_
              rintro e w3 ⟨rfl, sn, ok3, m3, u3, o3, g3⟩
              have OK3 := Lib.hid ok3
              have M3 := Lib.hid (show sn.many = min ((s : Int) + 1) 2 by have := HM.out; omega)
              have O3 := Lib.hid o3
              have G3 := Lib.hid g3
              have hr3 := only_cell g3 hr2 hbne
              have HB3 := Lib.hid (below_only HB.out g3 (Nat.le_refl _))
              rw [HU.out] at u3
              have U3 := Lib.hid u3
              clear ok3 m3 u3 o3 g3
              by_cases hs : s = 0
              · subst hs
                obtain ⟨e1, e2, e3⟩ := any_some OK3.out (by have := M3.out; omega)
                have e4 := one_ahead (x := sn) (by have := M3.out; omega) U3.out
                generalize hat : sn.at = A at *
                have HAT := Lib.hid hat
                clear hat
                go_wp2_with fail
                refine (when_any sn OK3.out _ _ O3.out).mono ?_
                rw [HAT.out]
                rintro e w20 ⟨rfl, g20⟩
                have G20 := Lib.hid g20
                clear g20
                have A20 := Lib.hid (O3.out.kept G20.out (by simp))
                go_wp2_with fail
                refine (due_any sn OK3.out _ A _ A20.out).mono ?_
                rintro e w21 ⟨rfl, g21⟩
                have G21 := Lib.hid g21
                clear g21
                have A21 := Lib.hid (A20.out.kept G21.out (by simp))
                go_wp2_with fail
                refine (due_any sn OK3.out _ (A - 1) _ A21.out).mono ?_
                rintro e w22 ⟨rfl, g22⟩
                have G22 := Lib.hid g22
                clear g22
                have A22 := Lib.hid (A21.out.kept G22.out (by simp))
                go_wp2_with fail
                refine (when_any sn OK3.out _ _ A22.out).mono ?_
                rw [HAT.out]
                rintro e w23 ⟨rfl, g23⟩
                have G23 := Lib.hid g23
                clear g23
                have A23 := Lib.hid (A22.out.kept G23.out (by simp))
                go_wp2_with fail
                go_roundw
                case rel => exact ⟨k + 1, 0 + 1, false, sn, by omega, by omega, by go_num, by go_num, rfl, OK3.out, by have := M3.out; omega, U3.out, A23.out, below_none (below_none (below_none (below_none HB3.out G20.out) G21.out) G22.out) G23.out⟩
                case measure => simp [intOf]; omega
              · have s1 : ((s : Int) + 1 == 1) = false := by simp; omega
                obtain ⟨e1, e2, e3⟩ := any_some OK3.out (by have := M3.out; omega)
                generalize hat : sn.at = A at *
                have HAT := Lib.hid hat
                clear hat
                go_wp2_with fail
                refine (when_any sn OK3.out _ _ O3.out).mono ?_
                rw [HAT.out]
                rintro e w20 ⟨rfl, g20⟩
                have G20 := Lib.hid g20
                clear g20
                have A20 := Lib.hid (O3.out.kept G20.out (by simp))
                go_wp2_with fail
                refine (due_any sn OK3.out _ A _ A20.out).mono ?_
                rintro e w21 ⟨rfl, g21⟩
                have G21 := Lib.hid g21
                clear g21
                have A21 := Lib.hid (A20.out.kept G21.out (by simp))
                go_wp2_with fail
                refine (when_any sn OK3.out _ _ A21.out).mono ?_
                rw [HAT.out]
                rintro e w22 ⟨rfl, g22⟩
                have G22 := Lib.hid g22
                clear g22
                have A22 := Lib.hid (A21.out.kept G22.out (by simp))
                go_wp2_with fail
                go_roundw
                case rel => exact ⟨k + 1, s + 1, false, sn, by omega, by omega, by go_num, by go_num, rfl, OK3.out, by have := M3.out; omega, U3.out, A22.out, below_none (below_none (below_none HB3.out G20.out) G21.out) G22.out⟩
                case measure => simp [intOf]; omega
            · rw [huk] at hr2
              clear huk
              go_wp2_with fail
              refine (packet_ex st HOK.out _ _ _ _ H1.out).mono ?_
              rintro e w3 ⟨rfl, sn, ok3, m3, u3, o3, g3⟩
              have OK3 := Lib.hid ok3
              have M3 := Lib.hid (show sn.many = min ((s : Int) + 1) 2 by have := HM.out; omega)
              have O3 := Lib.hid o3
              have G3 := Lib.hid g3
              have hr3 := only_cell g3 hr2 hbne
              have HB3 := Lib.hid (below_only HB.out g3 (Nat.le_refl _))
              rw [HU.out] at u3
              have U3 := Lib.hid u3
              clear ok3 m3 u3 o3 g3
              obtain ⟨e1, e2, e3⟩ := any_some OK3.out (by have := M3.out; omega)
              generalize hat : sn.at = A at *
              have HAT := Lib.hid hat
              clear hat
              go_wp2_with fail
              refine (when_any sn OK3.out _ _ O3.out).mono ?_
              rw [HAT.out]
              rintro e w20 ⟨rfl, g20⟩
              have G20 := Lib.hid g20
              clear g20
              have A20 := Lib.hid (O3.out.kept G20.out (by simp))
              go_wp2_with fail
              refine (due_any sn OK3.out _ A _ A20.out).mono ?_
              rintro e w21 ⟨rfl, g21⟩
              have G21 := Lib.hid g21
              clear g21
              have A21 := Lib.hid (A20.out.kept G21.out (by simp))
              go_wp2_with fail
              refine (when_any sn OK3.out _ _ A21.out).mono ?_
              rw [HAT.out]
              rintro e w22 ⟨rfl, g22⟩
              have G22 := Lib.hid g22
              clear g22
              have A22 := Lib.hid (A21.out.kept G22.out (by simp))
              go_wp2_with fail
              go_roundw
              case rel => exact ⟨k + 1, s + 1, true, sn, by omega, by omega, by go_num, by go_num, rfl, OK3.out, by have := M3.out; omega, U3.out, A22.out, below_none (below_none (below_none HB3.out G20.out) G21.out) G22.out⟩
              case measure => simp [intOf]; omega
          · have X2 : True := trivial
            go_wp2_with fail
            refine (packet_ex st HOK.out _ _ _ _ H1.out).mono ?_
            rintro e w3 ⟨rfl, sn, ok3, m3, u3, o3, g3⟩
            have OK3 := Lib.hid ok3
            have M3 := Lib.hid (show sn.many = min ((s : Int) + 1) 2 by have := HM.out; omega)
            have O3 := Lib.hid o3
            have G3 := Lib.hid g3
            have hr3 := only_cell g3 hr2 hbne
            have HB3 := Lib.hid (below_only HB.out g3 (Nat.le_refl _))
            rw [HU.out] at u3
            have U3 := Lib.hid u3
            clear ok3 m3 u3 o3 g3
            obtain ⟨e1, e2, e3⟩ := any_some OK3.out (by have := M3.out; omega)
            generalize hat : sn.at = A at *
            have HAT := Lib.hid hat
            clear hat
            go_wp2_with fail
            refine (when_any sn OK3.out _ _ O3.out).mono ?_
            rw [HAT.out]
            rintro e w20 ⟨rfl, g20⟩
            have G20 := Lib.hid g20
            clear g20
            have A20 := Lib.hid (O3.out.kept G20.out (by simp))
            go_wp2_with fail
            refine (due_any sn OK3.out _ A _ A20.out).mono ?_
            rintro e w21 ⟨rfl, g21⟩
            have G21 := Lib.hid g21
            clear g21
            have A21 := Lib.hid (A20.out.kept G21.out (by simp))
            go_wp2_with fail
            refine (when_any sn OK3.out _ _ A21.out).mono ?_
            rw [HAT.out]
            rintro e w22 ⟨rfl, g22⟩
            have G22 := Lib.hid g22
            clear g22
            have A22 := Lib.hid (A21.out.kept G22.out (by simp))
            go_wp2_with fail
            go_roundw
            case rel => exact ⟨k + 1, s + 1, true, sn, by omega, by omega, by go_num, by go_num, rfl, OK3.out, by have := M3.out; omega, (U3.out.trans (Bool.true_or _)), A22.out, below_none (below_none (below_none HB3.out G20.out) G21.out) G22.out⟩
            case measure => simp [intOf]; omega
        · by_cases k1 : ks k = 1
          · rw [k1] at hr0
            clear k0 k1
            have HOK2 := Lib.hid (dok_sent HOK.out)
            go_wp2_with fail
            refine (sent_any st _ _ H1.out).mono ?_
            rintro e w3 ⟨rfl, o3, g3⟩
            have O3 := Lib.hid o3
            have G3 := Lib.hid g3
            clear o3 g3
            have M3 := Lib.hid (show st.sent.many = 0 from rfl)
            have U3 := Lib.hid (show st.sent.urgent = false from rfl)
            have HB3 := Lib.hid (below_only HB.out G3.out (Nat.le_refl _))
            obtain ⟨e1, e2, e3⟩ := none_some (x := st.sent) (by have := M3.out; omega)
            go_wp2_with fail
            refine (when_any st.sent HOK2.out _ _ O3.out).mono ?_
            rintro e w20 ⟨rfl, g20⟩
            have G20 := Lib.hid g20
            clear g20
            have A20 := Lib.hid (O3.out.kept G20.out (by simp))
            go_wp2_with fail
            refine (due_any st.sent HOK2.out _ 4611686018427387904 _ A20.out).mono ?_
            rintro e w21 ⟨rfl, g21⟩
            have G21 := Lib.hid g21
            clear g21
            have A21 := Lib.hid (A20.out.kept G21.out (by simp))
            go_wp2_with fail
            refine (when_any st.sent HOK2.out _ _ A21.out).mono ?_
            rintro e w22 ⟨rfl, g22⟩
            have G22 := Lib.hid g22
            clear g22
            have A22 := Lib.hid (A21.out.kept G22.out (by simp))
            go_wp2_with fail
            go_roundw
            case rel => exact ⟨k + 1, 0, false, st.sent, by omega, by omega, by go_num, by go_num, rfl, HOK2.out, by have := M3.out; omega, U3.out, A22.out, below_none (below_none (below_none HB3.out G20.out) G21.out) G22.out⟩
            case measure => simp [intOf]; omega
          · have z0 : (ks k == 0) = false := by simpa using k0
            have z1 : (ks k == 1) = false := by simpa using k1
            clear k0 k1
            by_cases hs : s = 0
            · subst hs
              obtain ⟨e1, e2, e3⟩ := none_some (x := st) (by have := HM.out; omega)
              go_wp2_with fail
              refine (when_any st HOK.out _ _ H1.out).mono ?_
              rintro e w20 ⟨rfl, g20⟩
              have G20 := Lib.hid g20
              clear g20
              have A20 := Lib.hid (H1.out.kept G20.out (by simp))
              go_wp2_with fail
              refine (due_any st HOK.out _ 4611686018427387904 _ A20.out).mono ?_
              rintro e w21 ⟨rfl, g21⟩
              have G21 := Lib.hid g21
              clear g21
              have A21 := Lib.hid (A20.out.kept G21.out (by simp))
              go_wp2_with fail
              refine (when_any st HOK.out _ _ A21.out).mono ?_
              rintro e w22 ⟨rfl, g22⟩
              have G22 := Lib.hid g22
              clear g22
              have A22 := Lib.hid (A21.out.kept G22.out (by simp))
              go_wp2_with fail
              go_roundw
              case rel => exact ⟨k + 1, 0, hu, st, by omega, by omega, by go_num, by go_num, rfl, HOK.out, by have := HM.out; omega, HU.out, A22.out, below_none (below_none (below_none HB.out G20.out) G21.out) G22.out⟩
              case measure => simp [intOf]; omega
            · have hs1 : 1 ≤ s := by omega
              cases hu
              · by_cases hs2 : s = 1
                · subst hs2
                  obtain ⟨e1, e2, e3⟩ := any_some HOK.out (by have := HM.out; omega)
                  have e4 := one_ahead (x := st) (by have := HM.out; omega) HU.out
                  generalize hat : st.at = A at *
                  have HAT := Lib.hid hat
                  clear hat
                  go_wp2_with fail
                  refine (when_any st HOK.out _ _ H1.out).mono ?_
                  rw [HAT.out]
                  rintro e w20 ⟨rfl, g20⟩
                  have G20 := Lib.hid g20
                  clear g20
                  have A20 := Lib.hid (H1.out.kept G20.out (by simp))
                  go_wp2_with fail
                  refine (due_any st HOK.out _ A _ A20.out).mono ?_
                  rintro e w21 ⟨rfl, g21⟩
                  have G21 := Lib.hid g21
                  clear g21
                  have A21 := Lib.hid (A20.out.kept G21.out (by simp))
                  go_wp2_with fail
                  refine (due_any st HOK.out _ (A - 1) _ A21.out).mono ?_
                  rintro e w22 ⟨rfl, g22⟩
                  have G22 := Lib.hid g22
                  clear g22
                  have A22 := Lib.hid (A21.out.kept G22.out (by simp))
                  go_wp2_with fail
                  refine (when_any st HOK.out _ _ A22.out).mono ?_
                  rw [HAT.out]
                  rintro e w23 ⟨rfl, g23⟩
                  have G23 := Lib.hid g23
                  clear g23
                  have A23 := Lib.hid (A22.out.kept G23.out (by simp))
                  go_wp2_with fail
                  go_roundw
                  case rel => exact ⟨k + 1, 1, false, st, by omega, by omega, by go_num, by go_num, rfl, HOK.out, by have := HM.out; omega, HU.out, A23.out, below_none (below_none (below_none (below_none HB.out G20.out) G21.out) G22.out) G23.out⟩
                  case measure => simp [intOf]; omega
                · have s1 : ((s : Int) == 1) = false := by simp; omega
                  obtain ⟨e1, e2, e3⟩ := any_some HOK.out (by have := HM.out; omega)
                  generalize hat : st.at = A at *
                  have HAT := Lib.hid hat
                  clear hat
                  go_wp2_with fail
                  refine (when_any st HOK.out _ _ H1.out).mono ?_
                  rw [HAT.out]
                  rintro e w20 ⟨rfl, g20⟩
                  have G20 := Lib.hid g20
                  clear g20
                  have A20 := Lib.hid (H1.out.kept G20.out (by simp))
                  go_wp2_with fail
                  refine (due_any st HOK.out _ A _ A20.out).mono ?_
                  rintro e w21 ⟨rfl, g21⟩
                  have G21 := Lib.hid g21
                  clear g21
                  have A21 := Lib.hid (A20.out.kept G21.out (by simp))
                  go_wp2_with fail
                  refine (when_any st HOK.out _ _ A21.out).mono ?_
                  rw [HAT.out]
                  rintro e w22 ⟨rfl, g22⟩
                  have G22 := Lib.hid g22
                  clear g22
                  have A22 := Lib.hid (A21.out.kept G22.out (by simp))
                  go_wp2_with fail
                  go_roundw
                  case rel => exact ⟨k + 1, s, false, st, by omega, by omega, by go_num, by go_num, rfl, HOK.out, by have := HM.out; omega, HU.out, A22.out, below_none (below_none (below_none HB.out G20.out) G21.out) G22.out⟩
                  case measure => simp [intOf]; omega
              · have X3 : True := trivial
                obtain ⟨e1, e2, e3⟩ := any_some HOK.out (by have := HM.out; omega)
                generalize hat : st.at = A at *
                have HAT := Lib.hid hat
                clear hat
                go_wp2_with fail
                refine (when_any st HOK.out _ _ H1.out).mono ?_
                rw [HAT.out]
                rintro e w20 ⟨rfl, g20⟩
                have G20 := Lib.hid g20
                clear g20
                have A20 := Lib.hid (H1.out.kept G20.out (by simp))
                go_wp2_with fail
                refine (due_any st HOK.out _ A _ A20.out).mono ?_
                rintro e w21 ⟨rfl, g21⟩
                have G21 := Lib.hid g21
                clear g21
                have A21 := Lib.hid (A20.out.kept G21.out (by simp))
                go_wp2_with fail
                refine (when_any st HOK.out _ _ A21.out).mono ?_
                rw [HAT.out]
                rintro e w22 ⟨rfl, g22⟩
                have G22 := Lib.hid g22
                clear g22
                have A22 := Lib.hid (A21.out.kept G22.out (by simp))
                go_wp2_with fail
                go_roundw
                case rel => exact ⟨k + 1, s, true, st, by omega, by omega, by go_num, by go_num, rfl, HOK.out, by have := HM.out; omega, HU.out, A22.out, below_none (below_none (below_none HB.out G20.out) G21.out) G22.out⟩
                case measure => simp [intOf]; omega
    · go_wp2_with (go_at_call 9; refine (works_any _).mono ?_; rintro e w99 ⟨rfl, g99⟩)
      go_ret
      exact ⟨rfl, below_none HB.out g99⟩

theorem delayWhen.walk (W : World) (t : Int) (wt : (Lit.int .i64 t).wf = true) (v : Value) (x : Nat × (Nat → Int) × (Nat → Int) × (Nat → Bool)) (ho : Ops W v x) :
    Calls Try.prog 5 #[.int .i64 t, v] W fun e w' => e = .returned (.bool true) ∧ Below W.heap.size W w' := by
  by_cases hf : 0 ≤ t ∧ t ≤ 1048576
  · by_cases hn : x.1 ≤ 300
    · exact when_good t hf v x W ho hn
    · obtain ⟨n, ks, ts, us⟩ := x
      obtain ⟨⟨a, cap, rfl, hcap, hcap2, hsl⟩, hts⟩ := ho
      simp only at hn
      have hn2 : 300 < n := by omega
      have HF := Lib.hid hf
      clear hsl hts hn hf
      go_enter Try.func5, Try.ntmps5
      go_wp2_with fail
      refine (new_any t HF.out _).mono ?_
      rintro e w1 ⟨rfl, o1, g1⟩
      have O1 := Lib.hid o1
      have G1 := Lib.hid g1
      clear o1 g1
      go_wp2_with (go_at_call 9; refine (works_any _).mono ?_; rintro e w99 ⟨rfl, g99⟩)
      go_ret
      exact ⟨rfl, below_none (below_none (Below.refl _ _) G1.out) g99⟩
  · obtain ⟨n, ks, ts, us⟩ := x
    obtain ⟨⟨a, cap, rfl, hcap, hcap2, hsl⟩, hts⟩ := ho
    have HF := Lib.hid hf
    clear hsl hts hf
    go_enter Try.func5, Try.ntmps5
    go_wp2_with fail
    refine (new_any_bad t HF.out _).mono ?_
    rintro e x1 ⟨rfl, rfl⟩
    go_wp2_with (go_at_call 9; refine (works_any _).mono ?_; rintro e w99 ⟨rfl, g99⟩)
    go_ret
    exact ⟨rfl, below_none (Below.refl _ _) g99⟩
end Go.Proofs.Ytpapdcembpceaaa
