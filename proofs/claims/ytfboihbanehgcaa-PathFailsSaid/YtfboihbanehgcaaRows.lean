/-
  No cell of these rows narrows 'for every input' (looked for: loops, veiled, ifaces, maps, wideKeys, modest, calm, conditions, laid).
  DERIVED. THE GIVEN ROWS OF THIS SEAT. 6 by the template 'for every input the law returns true; each argument reads behind the call as it read before'; 0 by the template 'total and deterministic' (their statements: YtfboihbanehgcaaTotals.lean).
  GIVEN WITH THE SEED: the statements are not yours to turn. If you find one false, say at which input.
  Laid BY PROGRAM, IN A SANDBOX (cutbox-rows.mjs): the forced cells as the released guide's own fill.sh prints them over the translation 6b752acd10f58092… (all of the seat's roots in one cut). By AI agents, Wed Nov 11 2026. No macro, syntax, notation, axiom, sorry.
-/
import Derived.Test.YtfboihbanehgcaaChecked
import GoSem.Claim
import GoSem.ClaimJoined
import GoSem.ClaimMapViews
import Derived.JoinedTies
import Derived.KernelRfl
namespace Go.Proofs.Ytfboihbanehgcaa
/- THE CELL 'sum', in the pinned program and in every row, IS THE sha256 OF THE DUMP (.gsa) THAT YtfboihbanehgcaaProg.lean LOADS. Nothing in Lean hashes anything: it is a label: what it is worth is what the hold of that sum in a sandbox is worth. -/
noncomputable def Try.pinned : Pinned := { name := "ytfboihbanehgcaa", sum := "6b752acd10f5809253d432f4ae04b5062f35dafc21724fd98090f52ccc1293af", checked := Try.checked }
namespace Rows
def none {H : Type} : Left H := { results := [], args := [] }

/-- 'fairleadlaw14.PathRests': WHATEVER THE INPUT: true; the input reads as it did. -/
def pathRestsSpec : ChangeSpec := { name := "pathRests", fn := fun _ => fun
  | [d1, d2] => { results := [.lit (.bool true)], args := [d1, d2] }
  | _ => none }
def pathRestsRow : OpenClaim := { program := "ytfboihbanehgcaa", sum := "6b752acd10f5809253d432f4ae04b5062f35dafc21724fd98090f52ccc1293af", func := "fairlead/fairleadlaw14.PathRests", spec := "pathRests", unfollowed := true, recurses := true, apart := false }
def PathRestsSaid : Prop := pathRestsRow.holds Try.pinned (OpenSpec.ofChange pathRestsSpec)

/-- ITS FALSE NEIGHBOUR: 'it returns false'. Refute it at one input. -/
def pathRestsWrong : ChangeSpec := { name := "pathRests", fn := fun _ => fun
  | [d1, d2] => { results := [.lit (.bool false)], args := [d1, d2] }
  | _ => none }
def PathRestsWrongFalsely : Prop := pathRestsRow.holds Try.pinned (OpenSpec.ofChange pathRestsWrong)

/-- 'fairleadlaw14.PathNil': WHATEVER THE INPUT: true; the input reads as it did. -/
def pathNilSpec : ChangeSpec := { name := "pathNil", fn := fun _ => fun
  | [d] => { results := [.lit (.bool true)], args := [d] }
  | _ => none }
def pathNilRow : OpenClaim := { program := "ytfboihbanehgcaa", sum := "6b752acd10f5809253d432f4ae04b5062f35dafc21724fd98090f52ccc1293af", func := "fairlead/fairleadlaw14.PathNil", spec := "pathNil", unfollowed := true, recurses := true, apart := false }
def PathNilSaid : Prop := pathNilRow.holds Try.pinned (OpenSpec.ofChange pathNilSpec)

/-- ITS FALSE NEIGHBOUR: 'it returns false'. Refute it at one input. -/
def pathNilWrong : ChangeSpec := { name := "pathNil", fn := fun _ => fun
  | [d] => { results := [.lit (.bool false)], args := [d] }
  | _ => none }
def PathNilWrongFalsely : Prop := pathNilRow.holds Try.pinned (OpenSpec.ofChange pathNilWrong)

/-- 'fairleadlaw14.PathOnce': WHATEVER THE INPUT: true; the input reads as it did. -/
def pathOnceSpec : ChangeSpec := { name := "pathOnce", fn := fun _ => fun
  | [d1, d2] => { results := [.lit (.bool true)], args := [d1, d2] }
  | _ => none }
def pathOnceRow : OpenClaim := { program := "ytfboihbanehgcaa", sum := "6b752acd10f5809253d432f4ae04b5062f35dafc21724fd98090f52ccc1293af", func := "fairlead/fairleadlaw14.PathOnce", spec := "pathOnce", apart := false }
def PathOnceSaid : Prop := pathOnceRow.holds Try.pinned (OpenSpec.ofChange pathOnceSpec)

/-- ITS FALSE NEIGHBOUR: 'it returns false'. Refute it at one input. -/
def pathOnceWrong : ChangeSpec := { name := "pathOnce", fn := fun _ => fun
  | [d1, d2] => { results := [.lit (.bool false)], args := [d1, d2] }
  | _ => none }
def PathOnceWrongFalsely : Prop := pathOnceRow.holds Try.pinned (OpenSpec.ofChange pathOnceWrong)

/-- 'fairleadlaw14.PathBeats': WHATEVER THE INPUT: true; the input reads as it did. -/
def pathBeatsSpec : ChangeSpec := { name := "pathBeats", fn := fun _ => fun
  | [d1, d2] => { results := [.lit (.bool true)], args := [d1, d2] }
  | _ => none }
def pathBeatsRow : OpenClaim := { program := "ytfboihbanehgcaa", sum := "6b752acd10f5809253d432f4ae04b5062f35dafc21724fd98090f52ccc1293af", func := "fairlead/fairleadlaw14.PathBeats", spec := "pathBeats", apart := false }
def PathBeatsSaid : Prop := pathBeatsRow.holds Try.pinned (OpenSpec.ofChange pathBeatsSpec)

/-- ITS FALSE NEIGHBOUR: 'it returns false'. Refute it at one input. -/
def pathBeatsWrong : ChangeSpec := { name := "pathBeats", fn := fun _ => fun
  | [d1, d2] => { results := [.lit (.bool false)], args := [d1, d2] }
  | _ => none }
def PathBeatsWrongFalsely : Prop := pathBeatsRow.holds Try.pinned (OpenSpec.ofChange pathBeatsWrong)

/-- 'fairleadlaw14.PathPlays': WHATEVER THE INPUT: true; the input reads as it did. -/
def pathPlaysSpec : ChangeSpec := { name := "pathPlays", fn := fun _ => fun
  | [d1, d2, d3] => { results := [.lit (.bool true)], args := [d1, d2, d3] }
  | _ => none }
def pathPlaysRow : OpenClaim := { program := "ytfboihbanehgcaa", sum := "6b752acd10f5809253d432f4ae04b5062f35dafc21724fd98090f52ccc1293af", func := "fairlead/fairleadlaw14.PathPlays", spec := "pathPlays", unfollowed := true, recurses := true, apart := false }
def PathPlaysSaid : Prop := pathPlaysRow.holds Try.pinned (OpenSpec.ofChange pathPlaysSpec)

/-- ITS FALSE NEIGHBOUR: 'it returns false'. Refute it at one input. -/
def pathPlaysWrong : ChangeSpec := { name := "pathPlays", fn := fun _ => fun
  | [d1, d2, d3] => { results := [.lit (.bool false)], args := [d1, d2, d3] }
  | _ => none }
def PathPlaysWrongFalsely : Prop := pathPlaysRow.holds Try.pinned (OpenSpec.ofChange pathPlaysWrong)

/-- 'fairleadlaw14.PathFails': WHATEVER THE INPUT: true; the input reads as it did. -/
def pathFailsSpec : ChangeSpec := { name := "pathFails", fn := fun _ => fun
  | [d1, d2] => { results := [.lit (.bool true)], args := [d1, d2] }
  | _ => none }
def pathFailsRow : OpenClaim := { program := "ytfboihbanehgcaa", sum := "6b752acd10f5809253d432f4ae04b5062f35dafc21724fd98090f52ccc1293af", func := "fairlead/fairleadlaw14.PathFails", spec := "pathFails", unfollowed := true, recurses := true, apart := false }
def PathFailsSaid : Prop := pathFailsRow.holds Try.pinned (OpenSpec.ofChange pathFailsSpec)

/-- ITS FALSE NEIGHBOUR: 'it returns false'. Refute it at one input. -/
def pathFailsWrong : ChangeSpec := { name := "pathFails", fn := fun _ => fun
  | [d1, d2] => { results := [.lit (.bool false)], args := [d1, d2] }
  | _ => none }
def PathFailsWrongFalsely : Prop := pathFailsRow.holds Try.pinned (OpenSpec.ofChange pathFailsWrong)

/- THE SECOND FORM. 'bulk': how many values and letters a reading holds, each counted each time it is reached (what is shared counts as often as it is met; a slice's spare places count too). A statement '..UptoSaid' is the law's where the arguments, and the package variables that the reading takes, are together of bulk at most 1048576: NARROWER than '..Said'. Prove '..Said' where nothing that the law and all that it calls make is longer than what came in: it says more and counts as full. Else prove '..UptoSaid'. A law counts once. -/
mutual
def uptoBulk {H : Type} : DataW H → Nat
  | .lit (.string bytes) => bytes.length + 1
  | .lit _ => 1
  | .nil => 1
  | .ptr d => uptoBulk d + 1
  | .slice elems spare => uptoBulkAll elems + uptoBulkAll spare + 1
  | .agg parts => uptoBulkAll parts + 1
  | .iface _ d => uptoBulk d + 1
  | .map entries => uptoBulkEntries entries + 1
  | .held _ => 1
def uptoBulkAll {H : Type} : List (DataW H) → Nat
  | [] => 0
  | d :: r => uptoBulk d + uptoBulkAll r
def uptoBulkEntries {H : Type} : List (Lit × DataW H) → Nat
  | [] => 0
  | x :: r => uptoBulkEntry x + uptoBulkEntries r
def uptoBulkEntry {H : Type} : Lit × DataW H → Nat
  | (.string bytes, d) => bytes.length + uptoBulk d + 1
  | (_, d) => uptoBulk d + 1
 end
def uptoSmall : (H : Type) → List (DataW H) → Bool := fun _ ds => decide (uptoBulkAll ds ≤ 1048576)
def OpenSpec.upto (s : _root_.Go.ChangeSpec) : _root_.Go.OpenSpec := { _root_.Go.OpenSpec.ofChange s with cond := some uptoSmall }

/-- 'fairleadlaw14.PathRests', WHERE WHAT IT READS IS OF BULK AT MOST 1048576: true; the input reads as it did. -/
def pathRestsUptoRow : OpenClaim := { program := "ytfboihbanehgcaa", sum := "6b752acd10f5809253d432f4ae04b5062f35dafc21724fd98090f52ccc1293af", func := "fairlead/fairleadlaw14.PathRests", spec := "pathRests", unfollowed := true, recurses := true, apart := false, narrowed := true }
def PathRestsUptoSaid : Prop := pathRestsUptoRow.holds Try.pinned (OpenSpec.upto pathRestsSpec)

/-- 'fairleadlaw14.PathNil', WHERE WHAT IT READS IS OF BULK AT MOST 1048576: true; the input reads as it did. -/
def pathNilUptoRow : OpenClaim := { program := "ytfboihbanehgcaa", sum := "6b752acd10f5809253d432f4ae04b5062f35dafc21724fd98090f52ccc1293af", func := "fairlead/fairleadlaw14.PathNil", spec := "pathNil", unfollowed := true, recurses := true, apart := false, narrowed := true }
def PathNilUptoSaid : Prop := pathNilUptoRow.holds Try.pinned (OpenSpec.upto pathNilSpec)

/-- 'fairleadlaw14.PathOnce', WHERE WHAT IT READS IS OF BULK AT MOST 1048576: true; the input reads as it did. -/
def pathOnceUptoRow : OpenClaim := { program := "ytfboihbanehgcaa", sum := "6b752acd10f5809253d432f4ae04b5062f35dafc21724fd98090f52ccc1293af", func := "fairlead/fairleadlaw14.PathOnce", spec := "pathOnce", apart := false, narrowed := true }
def PathOnceUptoSaid : Prop := pathOnceUptoRow.holds Try.pinned (OpenSpec.upto pathOnceSpec)

/-- 'fairleadlaw14.PathBeats', WHERE WHAT IT READS IS OF BULK AT MOST 1048576: true; the input reads as it did. -/
def pathBeatsUptoRow : OpenClaim := { program := "ytfboihbanehgcaa", sum := "6b752acd10f5809253d432f4ae04b5062f35dafc21724fd98090f52ccc1293af", func := "fairlead/fairleadlaw14.PathBeats", spec := "pathBeats", apart := false, narrowed := true }
def PathBeatsUptoSaid : Prop := pathBeatsUptoRow.holds Try.pinned (OpenSpec.upto pathBeatsSpec)

/-- 'fairleadlaw14.PathPlays', WHERE WHAT IT READS IS OF BULK AT MOST 1048576: true; the input reads as it did. -/
def pathPlaysUptoRow : OpenClaim := { program := "ytfboihbanehgcaa", sum := "6b752acd10f5809253d432f4ae04b5062f35dafc21724fd98090f52ccc1293af", func := "fairlead/fairleadlaw14.PathPlays", spec := "pathPlays", unfollowed := true, recurses := true, apart := false, narrowed := true }
def PathPlaysUptoSaid : Prop := pathPlaysUptoRow.holds Try.pinned (OpenSpec.upto pathPlaysSpec)

/-- 'fairleadlaw14.PathFails', WHERE WHAT IT READS IS OF BULK AT MOST 1048576: true; the input reads as it did. -/
def pathFailsUptoRow : OpenClaim := { program := "ytfboihbanehgcaa", sum := "6b752acd10f5809253d432f4ae04b5062f35dafc21724fd98090f52ccc1293af", func := "fairlead/fairleadlaw14.PathFails", spec := "pathFails", unfollowed := true, recurses := true, apart := false, narrowed := true }
def PathFailsUptoSaid : Prop := pathFailsUptoRow.holds Try.pinned (OpenSpec.upto pathFailsSpec)

end Rows
end Go.Proofs.Ytfboihbanehgcaa
