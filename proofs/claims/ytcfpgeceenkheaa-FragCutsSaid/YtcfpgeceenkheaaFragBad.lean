/- frag.Cut where there are no pieces. Conditions: the bytes lie in memory; at most 4000000. -/
import Derived.Test.YtcfpgeceenkheaaFragMade
namespace Go.Proofs.Ytcfpgeceenkheaa
open Go.RowKit
set_option linter.unusedVariables false
set_option linter.unusedSimpArgs false

def noCut (e : Int) : Value := .tuple #[.slice none 0 0, .int .i64 e]
set_option maxRecDepth 100000 in
set_option maxHeartbeats 4000000 in
theorem fcut_arg (s : Int) (o : Bool) (ssn : Int) (a : Option Addr) (n cap : Nat) (most : Int) (w : World) (hm : most < 1) :
    Calls Try.prog 13 #[.agg #[.int .u16 s, .bool o, .slice a n cap], .int .u16 ssn, .int .i64 most] w fun e w' => e = .returned (noCut 1) ∧ turned w w' [] := by
  refine (callsIn_wide (n := 3)).1 ?_
  refine callsIn_of_wp_marks Try.func13 rfl trivial ?_ rfl
  simp only [Try.ntmps13, List.size_toArray, List.length_cons, List.length_nil, Nat.reduceAdd, Nat.reduceSub, Array.replicate_succ, Array.replicate_zero, List.push_toArray, List.append_toArray, List.nil_append, List.cons_append]
  gi_wp2_with (fail)
  all_goals exact ⟨_, by simp [results, Try.results13, go_sem]; rfl, rfl, turned_alloc (turned_alloc (turned_alloc (turned_refl w []) _) _) _⟩
set_option maxRecDepth 100000 in
set_option maxHeartbeats 4000000 in
theorem fcut_size (s : Int) (o : Bool) (ssn : Int) (a : Option Addr) (n cap : Nat) (most : Int) (w : World) (hm : 1 ≤ most) (hn : n = 0 ∨ 1048576 < n) :
    Calls Try.prog 13 #[.agg #[.int .u16 s, .bool o, .slice a n cap], .int .u16 ssn, .int .i64 most] w fun e w' => e = .returned (noCut 5) ∧ turned w w' [] := by
  refine (callsIn_wide (n := 3)).1 ?_
  refine callsIn_of_wp_marks Try.func13 rfl trivial ?_ rfl
  simp only [Try.ntmps13, List.size_toArray, List.length_cons, List.length_nil, Nat.reduceAdd, Nat.reduceSub, Array.replicate_succ, Array.replicate_zero, List.push_toArray, List.append_toArray, List.nil_append, List.cons_append]
  have e1 : ¬ most < 1 := by omega
  rcases hn with rfl | hn
  · gi_wp2_with (fail)
    all_goals exact ⟨_, by simp [results, Try.results13, go_sem]; rfl, rfl, turned_alloc (turned_alloc (turned_alloc (turned_refl w []) _) _) _⟩
  · have e2 : ¬ n = 0 := by omega
    have e4 : (1048576 : Int) < (n : Int) := by omega
    gi_wp2_with (fail)
    all_goals exact ⟨_, by simp [results, Try.results13, go_sem]; rfl, rfl, turned_alloc (turned_alloc (turned_alloc (turned_refl w []) _) _) _⟩
end Go.Proofs.Ytcfpgeceenkheaa
