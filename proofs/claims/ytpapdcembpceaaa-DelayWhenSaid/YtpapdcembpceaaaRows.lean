/-
  No cell of these rows narrows 'for every input' (looked for: loops, veiled, ifaces, maps, wideKeys, modest, calm, conditions, laid).
  DERIVED. THE GIVEN ROWS OF THIS SEAT. 6 by the template 'for every input the law returns true; each argument reads behind the call as it read before'; 0 by the template 'total and deterministic' (their statements: YtpapdcembpceaaaTotals.lean).
  GIVEN WITH THE SEED: the statements are not yours to turn. If you find one false, say at which input.
  Laid BY PROGRAM, IN A SANDBOX (cutbox-rows.mjs): the forced cells as the released guide's own fill.sh prints them over the translation ebc535be0b33204d… (all of the seat's roots in one cut). By AI agents, Wed Nov 11 2026. No macro, syntax, notation, axiom, sorry.
-/
import Derived.Test.YtpapdcembpceaaaChecked
import GoSem.Claim
import GoSem.ClaimJoined
import GoSem.ClaimMapViews
import Derived.JoinedTies
import Derived.KernelRfl
namespace Go.Proofs.Ytpapdcembpceaaa
/- THE CELL 'sum', in the pinned program and in every row, IS THE sha256 OF THE DUMP (.gsa) THAT YtpapdcembpceaaaProg.lean LOADS. Nothing in Lean hashes anything: it is a label: what it is worth is what the hold of that sum in a sandbox is worth. -/
noncomputable def Try.pinned : Pinned := { name := "ytpapdcembpceaaa", sum := "ebc535be0b33204d915903d0311f1da6def1faa97014e2b0d23e68de70919b70", checked := Try.checked }
namespace Rows
def none {H : Type} : Left H := { results := [], args := [] }

/-- 'fairleadlaw16.DelayPlays': WHATEVER THE INPUT: true; the input reads as it did. -/
def delayPlaysSpec : ChangeSpec := { name := "delayPlays", fn := fun _ => fun
  | [d1, d2] => { results := [.lit (.bool true)], args := [d1, d2] }
  | _ => none }
def delayPlaysRow : OpenClaim := { program := "ytpapdcembpceaaa", sum := "ebc535be0b33204d915903d0311f1da6def1faa97014e2b0d23e68de70919b70", func := "fairlead/fairleadlaw16.DelayPlays", spec := "delayPlays", unfollowed := true, recurses := true, apart := false }
def DelayPlaysSaid : Prop := delayPlaysRow.holds Try.pinned (OpenSpec.ofChange delayPlaysSpec)

/-- ITS FALSE NEIGHBOUR: 'it returns false'. Refute it at one input. -/
def delayPlaysWrong : ChangeSpec := { name := "delayPlays", fn := fun _ => fun
  | [d1, d2] => { results := [.lit (.bool false)], args := [d1, d2] }
  | _ => none }
def DelayPlaysWrongFalsely : Prop := delayPlaysRow.holds Try.pinned (OpenSpec.ofChange delayPlaysWrong)

/-- 'fairleadlaw16.DelaySoon': WHATEVER THE INPUT: true; the input reads as it did. -/
def delaySoonSpec : ChangeSpec := { name := "delaySoon", fn := fun _ => fun
  | [d1, d2] => { results := [.lit (.bool true)], args := [d1, d2] }
  | _ => none }
def delaySoonRow : OpenClaim := { program := "ytpapdcembpceaaa", sum := "ebc535be0b33204d915903d0311f1da6def1faa97014e2b0d23e68de70919b70", func := "fairlead/fairleadlaw16.DelaySoon", spec := "delaySoon", unfollowed := true, recurses := true, apart := false }
def DelaySoonSaid : Prop := delaySoonRow.holds Try.pinned (OpenSpec.ofChange delaySoonSpec)

/-- ITS FALSE NEIGHBOUR: 'it returns false'. Refute it at one input. -/
def delaySoonWrong : ChangeSpec := { name := "delaySoon", fn := fun _ => fun
  | [d1, d2] => { results := [.lit (.bool false)], args := [d1, d2] }
  | _ => none }
def DelaySoonWrongFalsely : Prop := delaySoonRow.holds Try.pinned (OpenSpec.ofChange delaySoonWrong)

/-- 'fairleadlaw16.DelayWhen': WHATEVER THE INPUT: true; the input reads as it did. -/
def delayWhenSpec : ChangeSpec := { name := "delayWhen", fn := fun _ => fun
  | [d1, d2] => { results := [.lit (.bool true)], args := [d1, d2] }
  | _ => none }
def delayWhenRow : OpenClaim := { program := "ytpapdcembpceaaa", sum := "ebc535be0b33204d915903d0311f1da6def1faa97014e2b0d23e68de70919b70", func := "fairlead/fairleadlaw16.DelayWhen", spec := "delayWhen", unfollowed := true, recurses := true, apart := false }
def DelayWhenSaid : Prop := delayWhenRow.holds Try.pinned (OpenSpec.ofChange delayWhenSpec)

/-- ITS FALSE NEIGHBOUR: 'it returns false'. Refute it at one input. -/
def delayWhenWrong : ChangeSpec := { name := "delayWhen", fn := fun _ => fun
  | [d1, d2] => { results := [.lit (.bool false)], args := [d1, d2] }
  | _ => none }
def DelayWhenWrongFalsely : Prop := delayWhenRow.holds Try.pinned (OpenSpec.ofChange delayWhenWrong)

/-- 'fairleadlaw16.DelayHurries': WHATEVER THE INPUT: true; the input reads as it did. -/
def delayHurriesSpec : ChangeSpec := { name := "delayHurries", fn := fun _ => fun
  | [d1, d2, d3] => { results := [.lit (.bool true)], args := [d1, d2, d3] }
  | _ => none }
def delayHurriesRow : OpenClaim := { program := "ytpapdcembpceaaa", sum := "ebc535be0b33204d915903d0311f1da6def1faa97014e2b0d23e68de70919b70", func := "fairlead/fairleadlaw16.DelayHurries", spec := "delayHurries", unfollowed := true, recurses := true, apart := false }
def DelayHurriesSaid : Prop := delayHurriesRow.holds Try.pinned (OpenSpec.ofChange delayHurriesSpec)

/-- ITS FALSE NEIGHBOUR: 'it returns false'. Refute it at one input. -/
def delayHurriesWrong : ChangeSpec := { name := "delayHurries", fn := fun _ => fun
  | [d1, d2, d3] => { results := [.lit (.bool false)], args := [d1, d2, d3] }
  | _ => none }
def DelayHurriesWrongFalsely : Prop := delayHurriesRow.holds Try.pinned (OpenSpec.ofChange delayHurriesWrong)

/-- 'fairleadlaw16.DelayOnce': WHATEVER THE INPUT: true; the input reads as it did. -/
def delayOnceSpec : ChangeSpec := { name := "delayOnce", fn := fun _ => fun
  | [d] => { results := [.lit (.bool true)], args := [d] }
  | _ => none }
def delayOnceRow : OpenClaim := { program := "ytpapdcembpceaaa", sum := "ebc535be0b33204d915903d0311f1da6def1faa97014e2b0d23e68de70919b70", func := "fairlead/fairleadlaw16.DelayOnce", spec := "delayOnce", unfollowed := true, recurses := true, apart := false }
def DelayOnceSaid : Prop := delayOnceRow.holds Try.pinned (OpenSpec.ofChange delayOnceSpec)

/-- ITS FALSE NEIGHBOUR: 'it returns false'. Refute it at one input. -/
def delayOnceWrong : ChangeSpec := { name := "delayOnce", fn := fun _ => fun
  | [d] => { results := [.lit (.bool false)], args := [d] }
  | _ => none }
def DelayOnceWrongFalsely : Prop := delayOnceRow.holds Try.pinned (OpenSpec.ofChange delayOnceWrong)

/-- 'fairleadlaw16.DelayNil': WHATEVER THE INPUT: true; the input reads as it did. -/
def delayNilSpec : ChangeSpec := { name := "delayNil", fn := fun _ => fun
  | [d1, d2] => { results := [.lit (.bool true)], args := [d1, d2] }
  | _ => none }
def delayNilRow : OpenClaim := { program := "ytpapdcembpceaaa", sum := "ebc535be0b33204d915903d0311f1da6def1faa97014e2b0d23e68de70919b70", func := "fairlead/fairleadlaw16.DelayNil", spec := "delayNil", unfollowed := true, recurses := true, apart := false }
def DelayNilSaid : Prop := delayNilRow.holds Try.pinned (OpenSpec.ofChange delayNilSpec)

/-- ITS FALSE NEIGHBOUR: 'it returns false'. Refute it at one input. -/
def delayNilWrong : ChangeSpec := { name := "delayNil", fn := fun _ => fun
  | [d1, d2] => { results := [.lit (.bool false)], args := [d1, d2] }
  | _ => none }
def DelayNilWrongFalsely : Prop := delayNilRow.holds Try.pinned (OpenSpec.ofChange delayNilWrong)

/- THE SECOND FORM. 'bulk': how many values and letters a reading holds, each counted each time it is reached (what is shared counts as often as it is met; a slice's spare places count too). A statement '..UptoSaid' is the law's where the arguments, and the package variables that the reading takes, are together of bulk at most 1048576: NARROWER than '..Said'. Prove '..Said' where nothing that the law and all that it calls make is longer than what came in: it says more and counts as full. Else prove '..UptoSaid'. A law counts once. -/
mutual
def uptoBulk {H : Type} : DataW H → Nat
  | .lit (.string bytes) => bytes.length + 1
  | .lit _ => 1
  | .nil => 1
  | .ptr d => uptoBulk d + 1
  | .slice elems spare => uptoBulkAll elems + uptoBulkAll spare + 1
  | .agg parts => uptoBulkAll parts + 1
  | .iface _ d => uptoBulk d + 1
  | .map entries => uptoBulkEntries entries + 1
  | .held _ => 1
def uptoBulkAll {H : Type} : List (DataW H) → Nat
  | [] => 0
  | d :: r => uptoBulk d + uptoBulkAll r
def uptoBulkEntries {H : Type} : List (Lit × DataW H) → Nat
  | [] => 0
  | x :: r => uptoBulkEntry x + uptoBulkEntries r
def uptoBulkEntry {H : Type} : Lit × DataW H → Nat
  | (.string bytes, d) => bytes.length + uptoBulk d + 1
  | (_, d) => uptoBulk d + 1
 end
def uptoSmall : (H : Type) → List (DataW H) → Bool := fun _ ds => decide (uptoBulkAll ds ≤ 1048576)
def OpenSpec.upto (s : _root_.Go.ChangeSpec) : _root_.Go.OpenSpec := { _root_.Go.OpenSpec.ofChange s with cond := some uptoSmall }

/-- 'fairleadlaw16.DelayPlays', WHERE WHAT IT READS IS OF BULK AT MOST 1048576: true; the input reads as it did. -/
def delayPlaysUptoRow : OpenClaim := { program := "ytpapdcembpceaaa", sum := "ebc535be0b33204d915903d0311f1da6def1faa97014e2b0d23e68de70919b70", func := "fairlead/fairleadlaw16.DelayPlays", spec := "delayPlays", unfollowed := true, recurses := true, apart := false, narrowed := true }
def DelayPlaysUptoSaid : Prop := delayPlaysUptoRow.holds Try.pinned (OpenSpec.upto delayPlaysSpec)

/-- 'fairleadlaw16.DelaySoon', WHERE WHAT IT READS IS OF BULK AT MOST 1048576: true; the input reads as it did. -/
def delaySoonUptoRow : OpenClaim := { program := "ytpapdcembpceaaa", sum := "ebc535be0b33204d915903d0311f1da6def1faa97014e2b0d23e68de70919b70", func := "fairlead/fairleadlaw16.DelaySoon", spec := "delaySoon", unfollowed := true, recurses := true, apart := false, narrowed := true }
def DelaySoonUptoSaid : Prop := delaySoonUptoRow.holds Try.pinned (OpenSpec.upto delaySoonSpec)

/-- 'fairleadlaw16.DelayWhen', WHERE WHAT IT READS IS OF BULK AT MOST 1048576: true; the input reads as it did. -/
def delayWhenUptoRow : OpenClaim := { program := "ytpapdcembpceaaa", sum := "ebc535be0b33204d915903d0311f1da6def1faa97014e2b0d23e68de70919b70", func := "fairlead/fairleadlaw16.DelayWhen", spec := "delayWhen", unfollowed := true, recurses := true, apart := false, narrowed := true }
def DelayWhenUptoSaid : Prop := delayWhenUptoRow.holds Try.pinned (OpenSpec.upto delayWhenSpec)

/-- 'fairleadlaw16.DelayHurries', WHERE WHAT IT READS IS OF BULK AT MOST 1048576: true; the input reads as it did. -/
def delayHurriesUptoRow : OpenClaim := { program := "ytpapdcembpceaaa", sum := "ebc535be0b33204d915903d0311f1da6def1faa97014e2b0d23e68de70919b70", func := "fairlead/fairleadlaw16.DelayHurries", spec := "delayHurries", unfollowed := true, recurses := true, apart := false, narrowed := true }
def DelayHurriesUptoSaid : Prop := delayHurriesUptoRow.holds Try.pinned (OpenSpec.upto delayHurriesSpec)

/-- 'fairleadlaw16.DelayOnce', WHERE WHAT IT READS IS OF BULK AT MOST 1048576: true; the input reads as it did. -/
def delayOnceUptoRow : OpenClaim := { program := "ytpapdcembpceaaa", sum := "ebc535be0b33204d915903d0311f1da6def1faa97014e2b0d23e68de70919b70", func := "fairlead/fairleadlaw16.DelayOnce", spec := "delayOnce", unfollowed := true, recurses := true, apart := false, narrowed := true }
def DelayOnceUptoSaid : Prop := delayOnceUptoRow.holds Try.pinned (OpenSpec.upto delayOnceSpec)

/-- 'fairleadlaw16.DelayNil', WHERE WHAT IT READS IS OF BULK AT MOST 1048576: true; the input reads as it did. -/
def delayNilUptoRow : OpenClaim := { program := "ytpapdcembpceaaa", sum := "ebc535be0b33204d915903d0311f1da6def1faa97014e2b0d23e68de70919b70", func := "fairlead/fairleadlaw16.DelayNil", spec := "delayNil", unfollowed := true, recurses := true, apart := false, narrowed := true }
def DelayNilUptoSaid : Prop := delayNilUptoRow.holds Try.pinned (OpenSpec.upto delayNilSpec)

end Rows
end Go.Proofs.Ytpapdcembpceaaa
