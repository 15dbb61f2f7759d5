/- FragCuts' walk, whatever is asked. No condition. -/
import Derived.Test.YtcfpgeceenkheaaFragCuts
namespace Go.Proofs.Ytcfpgeceenkheaa
open Go.RowKit Go.Deep
set_option linter.unusedVariables false
set_option linter.unusedSimpArgs false

set_option maxRecDepth 100000 in
set_option maxHeartbeats 4000000 in
theorem cuts_long (W : World) (s : Int) (o : Bool) (bv : Value) (B : List Int) (ssn most : Int) (hB : LiesB W bv B) (hmb : -9223372036854775808 ≤ most ∧ most ≤ 9223372036854775807) (h : isLong B.length most ∨ (¬ isLong B.length most ∧ 2097152 < B.length)) :
    Calls Try.prog 3 #[.agg #[.int .u16 s, .bool o, bv], .int .u16 ssn, .int .i64 most] W fun e w' => e = .returned (.bool true) ∧ Below W.heap.size W w' := by
  obtain ⟨a, cap, rfl, hc1, hc2⟩ := hB.1.form
  have OB := Lib.hid (msgBox W s o (.slice a B.length cap))
  have TB := Lib.hid (turned_alloc (turned_refl W []) (.cells #[.int .u16 s, .bool o, .slice a B.length cap] 25))
  have HB := Lib.hid (hB.none_ TB.out)
  clear hB
  go_enter Try.func3, Try.ntmps3
  go_wp2_with fail
  generalize (W.alloc (.cells #[.int .u16 s, .bool o, .slice a B.length cap] 25)) = w1 at OB TB HB ⊢
  rcases h with h | ⟨h, h'⟩
  · refine (long_yes s o _ B most w1 HB.out hmb h).mono ?_
    rintro e w2 ⟨rfl, t2⟩
    go_wp2_with fail
    refine (works17 _).mono ?_
    rintro e w7 ⟨rfl, t7⟩
    go_wp2
    go_ret
    exact ⟨rfl, turned_below (turned_trans TB.out (turned_trans t2 t7))⟩
  · refine (long_no s o _ B most w1 HB.out hmb h).mono ?_
    rintro e w2 ⟨rfl, t2⟩
    have m2 := (OB.out.past t2 (by simp)).cell 2 rfl
    have T2 := Lib.hid t2
    clear t2
    have d0 : decide ((2097152 : Int) < (B.length : Int)) = true := decide_eq_true (by omega)
    go_wp2_with fail
    refine (works17 _).mono ?_
    rintro e w7 ⟨rfl, t7⟩
    go_wp2
    go_ret
    exact ⟨rfl, turned_below (turned_trans TB.out (turned_trans T2.out t7))⟩
theorem fragCuts.walk (W : World) (v : Value) (x : Int × Bool × List Int) (h : IsMsg W v x) (ssn : Int) (hn : (Lit.int .u16 ssn).wf = true) (most : Int) (hm : (Lit.int .i64 most).wf = true) :
    Calls Try.prog 3 #[v, .int .u16 ssn, .int .i64 most] W fun e w' => e = .returned (.bool true) ∧ Below W.heap.size W w' := by
  obtain ⟨s, o, B⟩ := x
  obtain ⟨bv, rfl, hB, hs0, hs1⟩ := h
  have hm' := wf_i64_range hm
  have hn' := wf_u16_range hn
  simp only at hB hs0 hs1 ⊢
  by_cases hl : isLong B.length most
  · exact cuts_long W s o bv B ssn most hB hm' (.inl hl)
  by_cases hb : 2097152 < B.length
  · exact cuts_long W s o bv B ssn most hB hm' (.inr ⟨hl, hb⟩)
  by_cases hg : 1 ≤ most ∧ 1 ≤ B.length ∧ B.length ≤ 1048576
  · obtain ⟨g1, g2, g3⟩ := hg
    obtain ⟨p, rfl⟩ : ∃ p : Nat, most = (p : Int) := ⟨most.toNat, by omega⟩
    have hp : 1 ≤ p := by omega
    have h65 : B.length ≤ 65536 := by
      rcases Nat.lt_or_ge 65536 B.length with q | q
      · exact absurd (.inl ⟨q, g3⟩) hl
      · exact q
    refine cuts_main W s o bv B ssn p hB hm' hl (by omega) (bif o then ssn else 0) 0 ((List.range (nP B.length p)).map (bit B p)) (fun w v hv => fany_good s o ssn v B p w hv g2 g3 hp (by omega) ⟨hs0, hs1⟩ hn') (fun w v hv => rany_good s o ssn v B p w hv g2 g3 hp (by omega) ⟨hs0, hs1⟩ hn') (fun i hi => ?_) (by rw [bits_len]; have := nP_le (most := p) g2; omega)
    rw [bits_at]
    have h1 := bit_pos (B := B) hp (nP_lt g2 (show i < nP B.length p by rw [bits_len] at hi; exact hi))
    have h2 : (bit B p i).length ≤ B.length := by unfold bit; simp; omega
    exact ⟨h1, by omega⟩
  · have hbad : most < 1 ∨ (1 ≤ most ∧ (B.length = 0 ∨ 1048576 < B.length)) := by omega
    exact cuts_main W s o bv B ssn most hB hm' hl (by omega) (bif o then ssn else 0) (if most < 1 then 1 else 5) [] (fun w v hv => fany_bad s o ssn v B most w hv hbad) (fun w v hv => rany_bad s o ssn v B most w hv hbad) (fun i hi => by simp at hi) (by simp)
end Go.Proofs.Ytcfpgeceenkheaa
