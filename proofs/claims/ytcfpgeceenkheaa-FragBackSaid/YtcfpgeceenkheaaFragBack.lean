/- The walk of FragBack. No condition. -/
import Derived.Test.YtcfpgeceenkheaaFragWorks
namespace Go.Proofs.Ytcfpgeceenkheaa
open Go.ChangeShapes Go.WideShapes Go.RowKit Go.Deep
set_option linter.unusedVariables false
set_option linter.unusedSimpArgs false

/-- The pieces of a message are joined to it. -/
theorem join_cut (s own : Int) (o : Bool) (B : List Int) (most q : Nat) (v : Value) (X : List PD) (w : World) (h : LiesF w v X ((List.range q).map (bit B most))) (hs : shapedL s own (!o) X) (hl : X.length = q) (hw : whole X) (hq : B.length ≤ q * most) (hq1 : q ≤ 100000) (hq0 : 1 ≤ q) (hB : B.length ≤ 1048576) (hbb : bytes B) :
    Calls Try.prog 20 #[v] w fun e w' => ∃ a c, e = .returned (.tuple #[.agg #[.int .u16 s, .bool o, .slice a B.length c], .bool true]) ∧ LiesB w' (.slice a B.length c) B ∧ turned w w' [] := by
  have hp : 0 < X.length := by omega
  have e := shape_at hs 0 hp rfl
  have hf := bits_all B most q hq
  have j := fjoin_yes v X _ w h (by omega) (by rw [hf]; exact hB) hw s (!o) hp e.2.1 e.2.2.2.1
  rw [hf, Bool.not_not] at j
  refine j.mono ?_
  rintro e w' ⟨a, c, rfl, hr, t⟩
  exact ⟨a, c, rfl, ⟨Lies.row hr, hbb⟩, t⟩

set_option maxRecDepth 100000 in
set_option maxHeartbeats 8000000 in
theorem back_works (W : World) (s : Int) (o : Bool) (bv : Value) (B : List Int) (ssn one two : Int) (hB : LiesB W bv B) (hm1 : -9223372036854775808 ≤ one ∧ one ≤ 9223372036854775807) (hm2 : -9223372036854775808 ≤ two ∧ two ≤ 9223372036854775807)
    (h : isLong B.length one ∨ isLong B.length two ∨ B.length = 0 ∨ 65536 < B.length ∨ one < 1 ∨ two < 1) :
    Calls Try.prog 5 #[.agg #[.int .u16 s, .bool o, bv], .agg #[.int .u16 ssn, .int .i64 one, .int .i64 two]] W fun e w' => e = .returned (.bool true) ∧ Below W.heap.size W w' := by
  obtain ⟨a, cap, rfl, hc1, hc2⟩ := hB.1.form
  have OB := Lib.hid ((msgBox W s o (.slice a B.length cap)).alloc (.cells #[.int .u16 ssn, .int .i64 one, .int .i64 two] 46))
  have TB := Lib.hid (turned_alloc (turned_alloc (turned_refl W []) (.cells #[.int .u16 s, .bool o, .slice a B.length cap] 25)) (.cells #[.int .u16 ssn, .int .i64 one, .int .i64 two] 46))
  have HB := Lib.hid (hB.none_ TB.out)
  clear hB
  go_enter Try.func5, Try.ntmps5
  go_wp2_with fail
  generalize ((W.alloc (.cells #[.int .u16 s, .bool o, .slice a B.length cap] 25)).alloc (.cells #[.int .u16 ssn, .int .i64 one, .int .i64 two] 46)) = w1 at OB TB HB ⊢
  by_cases h1 : isLong B.length one
  · refine (long_yes s o _ B one w1 HB.out hm1 h1).mono ?_
    rintro e w2 ⟨rfl, t2⟩
    go_wp2_with fail
    refine (works17 _).mono ?_
    rintro e w7 ⟨rfl, t7⟩
    go_wp2
    go_ret
    exact ⟨rfl, turned_below (turned_trans TB.out (turned_trans t2 t7))⟩
  · refine (long_no s o _ B one w1 HB.out hm1 h1).mono ?_
    rintro e w2 ⟨rfl, t2⟩
    have T2 := Lib.hid (turned_trans TB.out t2)
    have O2 := Lib.hid (OB.out.past t2 (by simp))
    have B2 := Lib.hid (HB.out.none_ t2)
    have m0 := O2.out.cell 0 rfl
    have m1 := O2.out.cell 1 rfl
    have m2 := O2.out.cell 2 rfl
    clear t2
    go_wp2_with fail
    by_cases h2 : isLong B.length two
    · refine (long_yes s o _ B two w2 B2.out hm2 h2).mono ?_
      rintro e w3 ⟨rfl, t3⟩
      go_wp2_with fail
      refine (works17 _).mono ?_
      rintro e w7 ⟨rfl, t7⟩
      go_wp2
      go_ret
      exact ⟨rfl, turned_below (turned_trans T2.out (turned_trans t3 t7))⟩
    · refine (long_no s o _ B two w2 B2.out hm2 h2).mono ?_
      rintro e w3 ⟨rfl, t3⟩
      have T3 := Lib.hid (turned_trans T2.out t3)
      have O3 := Lib.hid (O2.out.past t3 (by simp))
      clear m0 m1 m2
      have m2 := O3.out.cell 2 rfl
      have h' : B.length = 0 ∨ 65536 < B.length ∨ one < 1 ∨ two < 1 := h.elim (fun g => absurd g h1) (fun g => g.elim (fun g => absurd g h2) id)
      clear t3 h h1 h2
      by_cases h3 : B.length = 0
      · have d3 : ((B.length : Int) == 0) = true := beq_iff_eq.2 (by omega)
        clear h3 h'
        go_wp2_with fail
        refine (works17 _).mono ?_
        rintro e w7 ⟨rfl, t7⟩
        go_wp2
        go_ret
        exact ⟨rfl, turned_below (turned_trans T3.out t7)⟩
      · have d3 : ((B.length : Int) == 0) = false := beq_eq_false_iff_ne.2 (by omega)
        by_cases h4 : 65536 < B.length
        · have d4 : decide ((65536 : Int) < (B.length : Int)) = true := decide_eq_true (by omega)
          clear h3 h4 h'
          go_wp2_with fail
          refine (works17 _).mono ?_
          rintro e w7 ⟨rfl, t7⟩
          go_wp2
          go_ret
          exact ⟨rfl, turned_below (turned_trans T3.out t7)⟩
        · have d4 : decide ((65536 : Int) < (B.length : Int)) = false := decide_eq_false (by omega)
          by_cases h5 : one < 1
          · have d5 : decide (one < 1) = true := decide_eq_true h5
            clear h3 h4 h'
            go_wp2_with fail
            refine (works17 _).mono ?_
            rintro e w7 ⟨rfl, t7⟩
            go_wp2
            go_ret
            exact ⟨rfl, turned_below (turned_trans T3.out t7)⟩
          · have d5 : decide (one < 1) = false := decide_eq_false h5
            have h6 : two < 1 := by omega
            have d6 : decide (two < 1) = true := decide_eq_true h6
            clear h3 h4 h'
            go_wp2_with fail
            refine (works17 _).mono ?_
            rintro e w7 ⟨rfl, t7⟩
            go_wp2
            go_ret
            exact ⟨rfl, turned_below (turned_trans T3.out t7)⟩

set_option maxRecDepth 100000 in
set_option maxHeartbeats 8000000 in
theorem back_good (W : World) (s : Int) (o : Bool) (bv : Value) (B : List Int) (ssn : Int) (one two : Nat) (hB : LiesB W bv B) (hs : 0 ≤ s ∧ s < 65536) (hn : 0 ≤ ssn ∧ ssn < 65536) (hm1 : 1 ≤ one ∧ one ≤ 9223372036854775807) (hm2 : 1 ≤ two ∧ two ≤ 9223372036854775807)
    (h0 : 1 ≤ B.length) (h1 : B.length ≤ 65536) (hl1 : ¬ isLong B.length (one : Int)) (hl2 : ¬ isLong B.length (two : Int)) :
    Calls Try.prog 5 #[.agg #[.int .u16 s, .bool o, bv], .agg #[.int .u16 ssn, .int .i64 (one : Int), .int .i64 (two : Int)]] W fun e w' => e = .returned (.bool true) ∧ Below W.heap.size W w' := by
  obtain ⟨a, cap, rfl, hc1, hc2⟩ := hB.1.form
  have HBYT := Lib.hid (show bytes B from hB.2)
  have OB := Lib.hid ((msgBox W s o (.slice a B.length cap)).alloc (.cells #[.int .u16 ssn, .int .i64 (one : Int), .int .i64 (two : Int)] 46))
  have TB := Lib.hid (turned_alloc (turned_alloc (turned_refl W []) (.cells #[.int .u16 s, .bool o, .slice a B.length cap] 25)) (.cells #[.int .u16 ssn, .int .i64 (one : Int), .int .i64 (two : Int)] 46))
  have HB := Lib.hid (hB.none_ TB.out)
  have HL1 := Lib.hid hl1
  have HL2 := Lib.hid hl2
  clear hB hl1 hl2
  have d3 : ((B.length : Int) == 0) = false := beq_eq_false_iff_ne.2 (by omega)
  have d4 : decide ((65536 : Int) < (B.length : Int)) = false := decide_eq_false (by omega)
  have d5 : decide ((one : Int) < 1) = false := decide_eq_false (by omega)
  have d6 : decide ((two : Int) < 1) = false := decide_eq_false (by omega)
  go_enter Try.func5, Try.ntmps5
  go_wp2_with fail
  generalize ((W.alloc (.cells #[.int .u16 s, .bool o, .slice a B.length cap] 25)).alloc (.cells #[.int .u16 ssn, .int .i64 (one : Int), .int .i64 (two : Int)] 46)) = w1 at OB TB HB ⊢
  refine (long_no s o _ B one w1 HB.out (by omega) HL1.out).mono ?_
  rintro e w2 ⟨rfl, t2⟩
  have T2 := Lib.hid (turned_trans TB.out t2)
  have O2 := Lib.hid (OB.out.past t2 (by simp))
  have B2 := Lib.hid (HB.out.none_ t2)
  have m0 := O2.out.cell 0 rfl
  have m1 := O2.out.cell 1 rfl
  have m2 := O2.out.cell 2 rfl
  clear t2
  go_wp2_with fail
  refine (long_no s o _ B two w2 B2.out (by omega) HL2.out).mono ?_
  rintro e w3 ⟨rfl, t3⟩
  have T3 := Lib.hid (turned_trans T2.out t3)
  have O3 := Lib.hid (O2.out.past t3 (by simp))
  have B3 := Lib.hid (B2.out.none_ t3)
  clear t3 m0 m1 m2
  have m0 := O3.out.cell 0 rfl
  have m1 := O3.out.cell 1 rfl
  have m2 := O3.out.cell 2 rfl
  go_wp2_with fail
  generalize hw4 : w3.alloc _ = w4
  have o4 := Lib.hid (old_of hw4 O3.out)
  have z4 := Lib.hid (new_of hw4)
  have t4 := turned_of hw4
  have T4 := Lib.hid (turned_trans T3.out t4)
  have B4 := Lib.hid (B3.out.none_ t4)
  generalize w3.heap.size = bz at *
  clear hw4 t4 m0 m1 m2 d5 d6
  go_loopw [9] (fun i wr => ∃ j : Nat, j ≤ 2 ∧ i = .int .i64 (j : Int) ∧ turned w4 wr []) (fun i _ => 2 - (intOf i).toNat)
  case atStart => exact ⟨0, Nat.zero_le _, rfl, turned_refl _ _⟩
  case round =>
    obtain ⟨j, hj, rfl, ht⟩ := hrel
    have HT := Lib.hid ht
    clear ht
    by_cases hlt : j < 2
    · obtain ⟨p, hp, hp1, hp2⟩ : ∃ p : Nat, wr.cell? ⟨bz, j, none⟩ = some (.int .i64 (p : Int)) ∧ 1 ≤ p ∧ p ≤ 9223372036854775807 := by
        have q0 := (z4.out.past HT.out (by simp)).cell 0 rfl
        have q1 := (z4.out.past HT.out (by simp)).cell 1 rfl
        match j, hlt with
        | 0, _ => exact ⟨one, q0, hm1.1, hm1.2⟩
        | 1, _ => exact ⟨two, q1, hm2.1, hm2.2⟩
      have hB5 := B4.out.none_ HT.out
      have HB5 := Lib.hid hB5
      have O5 := Lib.hid (o4.out.past HT.out (by simp))
      have m0 := O5.out.cell 0 rfl
      have m1 := O5.out.cell 1 rfl
      have m2 := O5.out.cell 2 rfl
      have HP := Lib.hid hp
      clear hB5
      go_wp2_with fail
      go_region_held3 (fun w' => w'.cell? ⟨W.heap.size, 0, none⟩ = some (.int .u16 s) ∧ w'.cell? ⟨W.heap.size, 1, none⟩ = some (.bool o) ∧ w'.cell? ⟨W.heap.size, 2, none⟩ = some (.slice a B.length cap) ∧ w'.cell? ⟨bz, j, none⟩ = some (.int .i64 (p : Int))) (first | (simp [go_sem, *]; done) | assumption) (first
        | (go_at_call 13; ((refine (fcut_use s o ssn (.slice a B.length cap) B p _ (HB5.out.none_ (turned_drew _ [])) h0 (by omega) hp1 hp2 hs hn).mono ?_)); rintro e w6 ⟨g, gc, X, rfl, hgc, hgc2, hmade, hlies, hsh, hl, hwh, hbn, t6⟩; have hq0 := nP_pos B.length p; have hq2 := nP_le (most := p) h0; have hqg := nP_ge h0 hp1; obtain ⟨q, hq⟩ : ∃ q, nP B.length p = q := ⟨_, rfl⟩; rw [hq] at hgc hmade hlies hl hq0 hq2 hqg ⊢; have HQ := Lib.hid hq; have HLI := Lib.hid hlies; have HSH := Lib.hid hsh; have HLX := Lib.hid hl; have HWH := Lib.hid hwh; have O6 := Lib.hid (O5.out.past (turned_trans (turned_drew _ []) t6) (by simp)); have HB6 := Lib.hid (HB5.out.none_ (turned_trans (turned_drew _ []) t6)); have hp6 := turned_cell (turned_trans (turned_drew _ []) t6) HP.out (by simp); have T6 := Lib.hid (turned_trans HT.out (turned_trans (turned_drew _ []) t6)); clear hq hmade hlies hsh hl hwh hbn t6; have m0 := O6.out.cell 0 rfl; have m1 := O6.out.cell 1 rfl; have m2 := O6.out.cell 2 rfl))
      obtain ⟨d, hd⟩ : ∃ d, (B.length - 1) / p = d := ⟨_, rfl⟩
      have hqd : q = 1 + d := by rw [← HQ.out, ← hd]; rfl
      have hdl : d ≤ B.length := by rw [← hd]; have := Nat.div_le_self (B.length - 1) p; omega
      have s0 : ((B.length : Int) - 1) / (p : Int) = (d : Int) := by
        rw [← hd, Int.natCast_ediv]
        congr 1
        omega
      have s1 : IntKind.i64.wrap ((B.length : Int) - 1) = (B.length : Int) - 1 := IntWalk.i64_in _ (by omega)
      have s2 : ((B.length : Int) - 1).tdiv (p : Int) = (d : Int) := by rw [Int.tdiv_eq_ediv_of_nonneg (by omega)]; exact s0
      have s3 : IntKind.i64.wrap (d : Int) = (d : Int) := IntWalk.i64_in _ (by omega)
      have s4 : IntKind.i64.wrap (1 + (d : Int)) = 1 + (d : Int) := IntWalk.i64_in _ (by omega)
      have s5 : ((q : Int) != 1 + (d : Int)) = false := by rw [hqd]; simp
      have s6 : ¬ (p : Int) = 0 := by omega
      have s7 : ((p : Int) == 0) = false := beq_eq_false_iff_ne.2 (by omega)
      clear hd hqd hdl
      go_wp2_with fail
      go_quiet (fail)
      clear s0 s1 s2 s3 s4 s5 s6 s7 m0 m1 m2
      go_wp2_with fail
      refine (join_cut s _ o B p q _ X _ (HLI.out.none_ (turned_drewN _ nq [])) HSH.out HLX.out HWH.out hqg (by omega) hq0 (by omega) HBYT.out).mono ?_
      rintro e w8 ⟨ja, jc, rfl, jl, t8⟩
      have t8' := turned_trans (turned_drewN w6 nq []) t8
      have O8 := Lib.hid (O6.out.past t8' (by simp))
      have B8 := Lib.hid (HB6.out.none_ t8')
      have T8 := Lib.hid (turned_trans T6.out t8')
      have JL := Lib.hid jl
      have hw8 := O8.out.lt
      have m0 := O8.out.cell 0 rfl
      have m1 := O8.out.cell 1 rfl
      have m2 := O8.out.cell 2 rfl
      clear t8 t8' jl
      go_wp2_with fail
      have tb := turned_alloc (turned_refl w8 []) (.cells #[.int .u16 s, .bool o, .slice ja B.length jc] 25)
      refine (sameMsg_yes s o _ _ B _ (B8.out.none_ tb) (JL.out.none_ tb) (by omega)).mono ?_
      rintro e w9 ⟨rfl, t9⟩
      go_wp2_with fail
      go_roundw
      case rel => exact ⟨j + 1, by omega, by go_num, turned_trans T8.out (turned_trans tb t9)⟩
      case measure => simp only [intOf]; omega
    · go_wp2_with fail
      refine (works17 _).mono ?_
      rintro e w7 ⟨rfl, t7⟩
      go_wp2
      go_ret
      exact ⟨rfl, turned_below (turned_trans T4.out (turned_trans HT.out t7))⟩
theorem fragBack.walk (W : World) (v : Value) (x : Int × Bool × List Int) (h : IsMsg W v x) (v1 : Value) (x1 : Int × Int × Int) (h1 : IsSizes W v1 x1) :
    Calls Try.prog 5 #[v, v1] W fun e w' => e = .returned (.bool true) ∧ Below W.heap.size W w' := by
  obtain ⟨s, o, B⟩ := x
  obtain ⟨ssn, one, two⟩ := x1
  obtain ⟨bv, rfl, hB, hs0, hs1⟩ := h
  obtain ⟨rfl, hn, hm1, hm2⟩ := h1
  simp only at hB hs0 hs1 hn hm1 hm2 ⊢
  by_cases hc : isLong B.length one ∨ isLong B.length two ∨ B.length = 0 ∨ 65536 < B.length ∨ one < 1 ∨ two < 1
  · exact back_works W s o bv B ssn one two hB hm1 hm2 hc
  · have c1 : ¬ isLong B.length one := fun g => hc (.inl g)
    have c2 : ¬ isLong B.length two := fun g => hc (.inr (.inl g))
    have c3 : ¬ B.length = 0 := fun g => hc (.inr (.inr (.inl g)))
    have c4 : ¬ 65536 < B.length := fun g => hc (.inr (.inr (.inr (.inl g))))
    have c5 : ¬ one < 1 := fun g => hc (.inr (.inr (.inr (.inr (.inl g)))))
    have c6 : ¬ two < 1 := fun g => hc (.inr (.inr (.inr (.inr (.inr g)))))
    obtain ⟨p, rfl⟩ : ∃ p : Nat, one = (p : Int) := ⟨one.toNat, by omega⟩
    obtain ⟨q, rfl⟩ : ∃ q : Nat, two = (q : Int) := ⟨two.toNat, by omega⟩
    exact back_good W s o bv B ssn p q hB ⟨hs0, hs1⟩ hn (by omega) (by omega) (by omega) (by omega) c1 c2
end Go.Proofs.Ytcfpgeceenkheaa
