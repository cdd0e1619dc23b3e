/-
  No cell of these rows narrows 'for every input' (looked for: loops, veiled, ifaces, maps, wideKeys, modest, calm, conditions, laid).
  DERIVED. THE GIVEN ROWS OF THIS SEAT. 6 by the template 'for every input the law returns true; each argument reads behind the call as it read before'; 0 by the template 'total and deterministic' (their statements: YtiglhdibibbkjaaTotals.lean).
  GIVEN WITH THE SEED: the statements are not yours to turn. If you find one false, say at which input.
  Laid BY PROGRAM, IN A SANDBOX (cutbox-rows.mjs): the forced cells as the released guide's own fill.sh prints them over the translation 99beb90a470eefef… (all of the seat's roots in one cut). By AI agents, Wed Nov 11 2026. No macro, syntax, notation, axiom, sorry.
-/
import Derived.Test.YtiglhdibibbkjaaChecked
import GoSem.Claim
import GoSem.ClaimJoined
import GoSem.ClaimMapViews
import Derived.JoinedTies
import Derived.KernelRfl
namespace Go.Proofs.Ytiglhdibibbkjaa
/- THE CELL 'sum', in the pinned program and in every row, IS THE sha256 OF THE DUMP (.gsa) THAT YtiglhdibibbkjaaProg.lean LOADS. Nothing in Lean hashes anything: it is a label: what it is worth is what the hold of that sum in a sandbox is worth. -/
noncomputable def Try.pinned : Pinned := { name := "ytiglhdibibbkjaa", sum := "99beb90a470eefef9d4ef8544f649bcf616c8fba3800729bc0e6cfe413458c48", checked := Try.checked }
namespace Rows
def none {H : Type} : Left H := { results := [], args := [] }

/-- 'laws.FnExactLeastMarks': WHATEVER THE INPUT: true; the input reads as it did. -/
def fnExactLeastMarksSpec : ChangeSpec := { name := "fnExactLeastMarks", fn := fun _ => fun
  | [d1, d2] => { results := [.lit (.bool true)], args := [d1, d2] }
  | _ => none }
def fnExactLeastMarksRow : OpenClaim := { program := "ytiglhdibibbkjaa", sum := "99beb90a470eefef9d4ef8544f649bcf616c8fba3800729bc0e6cfe413458c48", func := "loop.example/g00662/laws.FnExactLeastMarks", spec := "fnExactLeastMarks", unfollowed := true, recurses := true, apart := false }
def FnExactLeastMarksSaid : Prop := fnExactLeastMarksRow.holds Try.pinned (OpenSpec.ofChange fnExactLeastMarksSpec)

/-- ITS FALSE NEIGHBOUR: 'it returns false'. Refute it at one input. -/
def fnExactLeastMarksWrong : ChangeSpec := { name := "fnExactLeastMarks", fn := fun _ => fun
  | [d1, d2] => { results := [.lit (.bool false)], args := [d1, d2] }
  | _ => none }
def FnExactLeastMarksWrongFalsely : Prop := fnExactLeastMarksRow.holds Try.pinned (OpenSpec.ofChange fnExactLeastMarksWrong)

/-- 'laws.FnExactCoversBack': WHATEVER THE INPUT: true; the input reads as it did. -/
def fnExactCoversBackSpec : ChangeSpec := { name := "fnExactCoversBack", fn := fun _ => fun
  | [d1, d2, d3, d4] => { results := [.lit (.bool true)], args := [d1, d2, d3, d4] }
  | _ => none }
def fnExactCoversBackRow : OpenClaim := { program := "ytiglhdibibbkjaa", sum := "99beb90a470eefef9d4ef8544f649bcf616c8fba3800729bc0e6cfe413458c48", func := "loop.example/g00662/laws.FnExactCoversBack", spec := "fnExactCoversBack", unfollowed := true, recurses := true, apart := false }
def FnExactCoversBackSaid : Prop := fnExactCoversBackRow.holds Try.pinned (OpenSpec.ofChange fnExactCoversBackSpec)

/-- ITS FALSE NEIGHBOUR: 'it returns false'. Refute it at one input. -/
def fnExactCoversBackWrong : ChangeSpec := { name := "fnExactCoversBack", fn := fun _ => fun
  | [d1, d2, d3, d4] => { results := [.lit (.bool false)], args := [d1, d2, d3, d4] }
  | _ => none }
def FnExactCoversBackWrongFalsely : Prop := fnExactCoversBackRow.holds Try.pinned (OpenSpec.ofChange fnExactCoversBackWrong)

/-- 'laws.FnExactBackBasis': WHATEVER THE INPUT: true; the input reads as it did. -/
def fnExactBackBasisSpec : ChangeSpec := { name := "fnExactBackBasis", fn := fun _ => fun
  | [d1, d2, d3] => { results := [.lit (.bool true)], args := [d1, d2, d3] }
  | _ => none }
def fnExactBackBasisRow : OpenClaim := { program := "ytiglhdibibbkjaa", sum := "99beb90a470eefef9d4ef8544f649bcf616c8fba3800729bc0e6cfe413458c48", func := "loop.example/g00662/laws.FnExactBackBasis", spec := "fnExactBackBasis", unfollowed := true, recurses := true, apart := false }
def FnExactBackBasisSaid : Prop := fnExactBackBasisRow.holds Try.pinned (OpenSpec.ofChange fnExactBackBasisSpec)

/-- ITS FALSE NEIGHBOUR: 'it returns false'. Refute it at one input. -/
def fnExactBackBasisWrong : ChangeSpec := { name := "fnExactBackBasis", fn := fun _ => fun
  | [d1, d2, d3] => { results := [.lit (.bool false)], args := [d1, d2, d3] }
  | _ => none }
def FnExactBackBasisWrongFalsely : Prop := fnExactBackBasisRow.holds Try.pinned (OpenSpec.ofChange fnExactBackBasisWrong)

/-- 'laws.FnExactBackRounds': WHATEVER THE INPUT: true; the input reads as it did. -/
def fnExactBackRoundsSpec : ChangeSpec := { name := "fnExactBackRounds", fn := fun _ => fun
  | [d1, d2, d3] => { results := [.lit (.bool true)], args := [d1, d2, d3] }
  | _ => none }
def fnExactBackRoundsRow : OpenClaim := { program := "ytiglhdibibbkjaa", sum := "99beb90a470eefef9d4ef8544f649bcf616c8fba3800729bc0e6cfe413458c48", func := "loop.example/g00662/laws.FnExactBackRounds", spec := "fnExactBackRounds", unfollowed := true, recurses := true, apart := false }
def FnExactBackRoundsSaid : Prop := fnExactBackRoundsRow.holds Try.pinned (OpenSpec.ofChange fnExactBackRoundsSpec)

/-- ITS FALSE NEIGHBOUR: 'it returns false'. Refute it at one input. -/
def fnExactBackRoundsWrong : ChangeSpec := { name := "fnExactBackRounds", fn := fun _ => fun
  | [d1, d2, d3] => { results := [.lit (.bool false)], args := [d1, d2, d3] }
  | _ => none }
def FnExactBackRoundsWrongFalsely : Prop := fnExactBackRoundsRow.holds Try.pinned (OpenSpec.ofChange fnExactBackRoundsWrong)

/-- 'laws.FnExactWayTo': WHATEVER THE INPUT: true; the input reads as it did. -/
def fnExactWayToSpec : ChangeSpec := { name := "fnExactWayTo", fn := fun _ => fun
  | [d1, d2, d3, d4] => { results := [.lit (.bool true)], args := [d1, d2, d3, d4] }
  | _ => none }
def fnExactWayToRow : OpenClaim := { program := "ytiglhdibibbkjaa", sum := "99beb90a470eefef9d4ef8544f649bcf616c8fba3800729bc0e6cfe413458c48", func := "loop.example/g00662/laws.FnExactWayTo", spec := "fnExactWayTo", unfollowed := true, recurses := true, apart := false }
def FnExactWayToSaid : Prop := fnExactWayToRow.holds Try.pinned (OpenSpec.ofChange fnExactWayToSpec)

/-- ITS FALSE NEIGHBOUR: 'it returns false'. Refute it at one input. -/
def fnExactWayToWrong : ChangeSpec := { name := "fnExactWayTo", fn := fun _ => fun
  | [d1, d2, d3, d4] => { results := [.lit (.bool false)], args := [d1, d2, d3, d4] }
  | _ => none }
def FnExactWayToWrongFalsely : Prop := fnExactWayToRow.holds Try.pinned (OpenSpec.ofChange fnExactWayToWrong)

/-- 'laws.FnExactCheckSound': WHATEVER THE INPUT: true; the input reads as it did. -/
def fnExactCheckSoundSpec : ChangeSpec := { name := "fnExactCheckSound", fn := fun _ => fun
  | [d1, d2] => { results := [.lit (.bool true)], args := [d1, d2] }
  | _ => none }
def fnExactCheckSoundRow : OpenClaim := { program := "ytiglhdibibbkjaa", sum := "99beb90a470eefef9d4ef8544f649bcf616c8fba3800729bc0e6cfe413458c48", func := "loop.example/g00662/laws.FnExactCheckSound", spec := "fnExactCheckSound", unfollowed := true, recurses := true, apart := false }
def FnExactCheckSoundSaid : Prop := fnExactCheckSoundRow.holds Try.pinned (OpenSpec.ofChange fnExactCheckSoundSpec)

/-- ITS FALSE NEIGHBOUR: 'it returns false'. Refute it at one input. -/
def fnExactCheckSoundWrong : ChangeSpec := { name := "fnExactCheckSound", fn := fun _ => fun
  | [d1, d2] => { results := [.lit (.bool false)], args := [d1, d2] }
  | _ => none }
def FnExactCheckSoundWrongFalsely : Prop := fnExactCheckSoundRow.holds Try.pinned (OpenSpec.ofChange fnExactCheckSoundWrong)

/- THE SECOND FORM. 'bulk': how many values and letters a reading holds, each counted each time it is reached (what is shared counts as often as it is met; a slice's spare places count too). A statement '..UptoSaid' is the law's where the arguments, and the package variables that the reading takes, are together of bulk at most 1048576: NARROWER than '..Said'. Prove '..Said' where nothing that the law and all that it calls make is longer than what came in: it says more and counts as full. Else prove '..UptoSaid'. A law counts once. -/
mutual
def uptoBulk {H : Type} : DataW H → Nat
  | .lit (.string bytes) => bytes.length + 1
  | .lit _ => 1
  | .nil => 1
  | .ptr d => uptoBulk d + 1
  | .slice elems spare => uptoBulkAll elems + uptoBulkAll spare + 1
  | .agg parts => uptoBulkAll parts + 1
  | .iface _ d => uptoBulk d + 1
  | .map entries => uptoBulkEntries entries + 1
  | .held _ => 1
def uptoBulkAll {H : Type} : List (DataW H) → Nat
  | [] => 0
  | d :: r => uptoBulk d + uptoBulkAll r
def uptoBulkEntries {H : Type} : List (Lit × DataW H) → Nat
  | [] => 0
  | x :: r => uptoBulkEntry x + uptoBulkEntries r
def uptoBulkEntry {H : Type} : Lit × DataW H → Nat
  | (.string bytes, d) => bytes.length + uptoBulk d + 1
  | (_, d) => uptoBulk d + 1
 end
def uptoSmall : (H : Type) → List (DataW H) → Bool := fun _ ds => decide (uptoBulkAll ds ≤ 1048576)
def OpenSpec.upto (s : _root_.Go.ChangeSpec) : _root_.Go.OpenSpec := { _root_.Go.OpenSpec.ofChange s with cond := some uptoSmall }

/-- 'laws.FnExactLeastMarks', WHERE WHAT IT READS IS OF BULK AT MOST 1048576: true; the input reads as it did. -/
def fnExactLeastMarksUptoRow : OpenClaim := { program := "ytiglhdibibbkjaa", sum := "99beb90a470eefef9d4ef8544f649bcf616c8fba3800729bc0e6cfe413458c48", func := "loop.example/g00662/laws.FnExactLeastMarks", spec := "fnExactLeastMarks", unfollowed := true, recurses := true, apart := false, narrowed := true }
def FnExactLeastMarksUptoSaid : Prop := fnExactLeastMarksUptoRow.holds Try.pinned (OpenSpec.upto fnExactLeastMarksSpec)

/-- 'laws.FnExactCoversBack', WHERE WHAT IT READS IS OF BULK AT MOST 1048576: true; the input reads as it did. -/
def fnExactCoversBackUptoRow : OpenClaim := { program := "ytiglhdibibbkjaa", sum := "99beb90a470eefef9d4ef8544f649bcf616c8fba3800729bc0e6cfe413458c48", func := "loop.example/g00662/laws.FnExactCoversBack", spec := "fnExactCoversBack", unfollowed := true, recurses := true, apart := false, narrowed := true }
def FnExactCoversBackUptoSaid : Prop := fnExactCoversBackUptoRow.holds Try.pinned (OpenSpec.upto fnExactCoversBackSpec)

/-- 'laws.FnExactBackBasis', WHERE WHAT IT READS IS OF BULK AT MOST 1048576: true; the input reads as it did. -/
def fnExactBackBasisUptoRow : OpenClaim := { program := "ytiglhdibibbkjaa", sum := "99beb90a470eefef9d4ef8544f649bcf616c8fba3800729bc0e6cfe413458c48", func := "loop.example/g00662/laws.FnExactBackBasis", spec := "fnExactBackBasis", unfollowed := true, recurses := true, apart := false, narrowed := true }
def FnExactBackBasisUptoSaid : Prop := fnExactBackBasisUptoRow.holds Try.pinned (OpenSpec.upto fnExactBackBasisSpec)

/-- 'laws.FnExactBackRounds', WHERE WHAT IT READS IS OF BULK AT MOST 1048576: true; the input reads as it did. -/
def fnExactBackRoundsUptoRow : OpenClaim := { program := "ytiglhdibibbkjaa", sum := "99beb90a470eefef9d4ef8544f649bcf616c8fba3800729bc0e6cfe413458c48", func := "loop.example/g00662/laws.FnExactBackRounds", spec := "fnExactBackRounds", unfollowed := true, recurses := true, apart := false, narrowed := true }
def FnExactBackRoundsUptoSaid : Prop := fnExactBackRoundsUptoRow.holds Try.pinned (OpenSpec.upto fnExactBackRoundsSpec)

/-- 'laws.FnExactWayTo', WHERE WHAT IT READS IS OF BULK AT MOST 1048576: true; the input reads as it did. -/
def fnExactWayToUptoRow : OpenClaim := { program := "ytiglhdibibbkjaa", sum := "99beb90a470eefef9d4ef8544f649bcf616c8fba3800729bc0e6cfe413458c48", func := "loop.example/g00662/laws.FnExactWayTo", spec := "fnExactWayTo", unfollowed := true, recurses := true, apart := false, narrowed := true }
def FnExactWayToUptoSaid : Prop := fnExactWayToUptoRow.holds Try.pinned (OpenSpec.upto fnExactWayToSpec)

/-- 'laws.FnExactCheckSound', WHERE WHAT IT READS IS OF BULK AT MOST 1048576: true; the input reads as it did. -/
def fnExactCheckSoundUptoRow : OpenClaim := { program := "ytiglhdibibbkjaa", sum := "99beb90a470eefef9d4ef8544f649bcf616c8fba3800729bc0e6cfe413458c48", func := "loop.example/g00662/laws.FnExactCheckSound", spec := "fnExactCheckSound", unfollowed := true, recurses := true, apart := false, narrowed := true }
def FnExactCheckSoundUptoSaid : Prop := fnExactCheckSoundUptoRow.holds Try.pinned (OpenSpec.upto fnExactCheckSoundSpec)

end Rows
end Go.Proofs.Ytiglhdibibbkjaa
