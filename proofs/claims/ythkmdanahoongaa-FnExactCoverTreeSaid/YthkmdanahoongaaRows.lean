/-
  No cell of these rows narrows 'for every input' (looked for: loops, veiled, ifaces, maps, wideKeys, modest, calm, conditions, laid).
  DERIVED. THE GIVEN ROWS OF THIS SEAT. 12 by the template 'for every input the law returns true; each argument reads behind the call as it read before'; 0 by the template 'total and deterministic' (their statements: YthkmdanahoongaaTotals.lean).
  GIVEN WITH THE SEED: the statements are not yours to turn. If you find one false, say at which input.
  Laid BY PROGRAM, IN A SANDBOX (cutbox-rows.mjs): the forced cells as the released guide's own fill.sh prints them over the translation a7b504a302abb00d… (all of the seat's roots in one cut). By AI agents, Wed Nov 11 2026. No macro, syntax, notation, axiom, sorry.
-/
import Derived.Test.YthkmdanahoongaaChecked
import GoSem.Claim
import GoSem.ClaimJoined
import GoSem.ClaimMapViews
import Derived.JoinedTies
import Derived.KernelRfl
namespace Go.Proofs.Ythkmdanahoongaa
/- THE CELL 'sum', in the pinned program and in every row, IS THE sha256 OF THE DUMP (.gsa) THAT YthkmdanahoongaaProg.lean LOADS. Nothing in Lean hashes anything: it is a label: what it is worth is what the hold of that sum in a sandbox is worth. -/
noncomputable def Try.pinned : Pinned := { name := "ythkmdanahoongaa", sum := "a7b504a302abb00d0f835ab17c73326b6677d6e2bf5f6b72ff30d75eceaec639", checked := Try.checked }
namespace Rows
def none {H : Type} : Left H := { results := [], args := [] }

/-- 'laws.FnExactCanCome': WHATEVER THE INPUT: true; the input reads as it did. -/
def fnExactCanComeSpec : ChangeSpec := { name := "fnExactCanCome", fn := fun _ => fun
  | [d1, d2, d3, d4] => { results := [.lit (.bool true)], args := [d1, d2, d3, d4] }
  | _ => none }
def fnExactCanComeRow : OpenClaim := { program := "ythkmdanahoongaa", sum := "a7b504a302abb00d0f835ab17c73326b6677d6e2bf5f6b72ff30d75eceaec639", func := "loop.example/g00662/laws.FnExactCanCome", spec := "fnExactCanCome", unfollowed := true, recurses := true, apart := false }
def FnExactCanComeSaid : Prop := fnExactCanComeRow.holds Try.pinned (OpenSpec.ofChange fnExactCanComeSpec)

/-- ITS FALSE NEIGHBOUR: 'it returns false'. Refute it at one input. -/
def fnExactCanComeWrong : ChangeSpec := { name := "fnExactCanCome", fn := fun _ => fun
  | [d1, d2, d3, d4] => { results := [.lit (.bool false)], args := [d1, d2, d3, d4] }
  | _ => none }
def FnExactCanComeWrongFalsely : Prop := fnExactCanComeRow.holds Try.pinned (OpenSpec.ofChange fnExactCanComeWrong)

/-- 'laws.FnExactBoundOf': WHATEVER THE INPUT: true; the input reads as it did. -/
def fnExactBoundOfSpec : ChangeSpec := { name := "fnExactBoundOf", fn := fun _ => fun
  | [d1, d2, d3, d4] => { results := [.lit (.bool true)], args := [d1, d2, d3, d4] }
  | _ => none }
def fnExactBoundOfRow : OpenClaim := { program := "ythkmdanahoongaa", sum := "a7b504a302abb00d0f835ab17c73326b6677d6e2bf5f6b72ff30d75eceaec639", func := "loop.example/g00662/laws.FnExactBoundOf", spec := "fnExactBoundOf", unfollowed := true, recurses := true, apart := false }
def FnExactBoundOfSaid : Prop := fnExactBoundOfRow.holds Try.pinned (OpenSpec.ofChange fnExactBoundOfSpec)

/-- ITS FALSE NEIGHBOUR: 'it returns false'. Refute it at one input. -/
def fnExactBoundOfWrong : ChangeSpec := { name := "fnExactBoundOf", fn := fun _ => fun
  | [d1, d2, d3, d4] => { results := [.lit (.bool false)], args := [d1, d2, d3, d4] }
  | _ => none }
def FnExactBoundOfWrongFalsely : Prop := fnExactBoundOfRow.holds Try.pinned (OpenSpec.ofChange fnExactBoundOfWrong)

/-- 'laws.FnExactFirstDead': WHATEVER THE INPUT: true; the input reads as it did. -/
def fnExactFirstDeadSpec : ChangeSpec := { name := "fnExactFirstDead", fn := fun _ => fun
  | [d1, d2, d3] => { results := [.lit (.bool true)], args := [d1, d2, d3] }
  | _ => none }
def fnExactFirstDeadRow : OpenClaim := { program := "ythkmdanahoongaa", sum := "a7b504a302abb00d0f835ab17c73326b6677d6e2bf5f6b72ff30d75eceaec639", func := "loop.example/g00662/laws.FnExactFirstDead", spec := "fnExactFirstDead", unfollowed := true, recurses := true, apart := false }
def FnExactFirstDeadSaid : Prop := fnExactFirstDeadRow.holds Try.pinned (OpenSpec.ofChange fnExactFirstDeadSpec)

/-- ITS FALSE NEIGHBOUR: 'it returns false'. Refute it at one input. -/
def fnExactFirstDeadWrong : ChangeSpec := { name := "fnExactFirstDead", fn := fun _ => fun
  | [d1, d2, d3] => { results := [.lit (.bool false)], args := [d1, d2, d3] }
  | _ => none }
def FnExactFirstDeadWrongFalsely : Prop := fnExactFirstDeadRow.holds Try.pinned (OpenSpec.ofChange fnExactFirstDeadWrong)

/-- 'laws.FnExactDeadTrans': WHATEVER THE INPUT: true; the input reads as it did. -/
def fnExactDeadTransSpec : ChangeSpec := { name := "fnExactDeadTrans", fn := fun _ => fun
  | [d1, d2, d3] => { results := [.lit (.bool true)], args := [d1, d2, d3] }
  | _ => none }
def fnExactDeadTransRow : OpenClaim := { program := "ythkmdanahoongaa", sum := "a7b504a302abb00d0f835ab17c73326b6677d6e2bf5f6b72ff30d75eceaec639", func := "loop.example/g00662/laws.FnExactDeadTrans", spec := "fnExactDeadTrans", unfollowed := true, recurses := true, apart := false }
def FnExactDeadTransSaid : Prop := fnExactDeadTransRow.holds Try.pinned (OpenSpec.ofChange fnExactDeadTransSpec)

/-- ITS FALSE NEIGHBOUR: 'it returns false'. Refute it at one input. -/
def fnExactDeadTransWrong : ChangeSpec := { name := "fnExactDeadTrans", fn := fun _ => fun
  | [d1, d2, d3] => { results := [.lit (.bool false)], args := [d1, d2, d3] }
  | _ => none }
def FnExactDeadTransWrongFalsely : Prop := fnExactDeadTransRow.holds Try.pinned (OpenSpec.ofChange fnExactDeadTransWrong)

/-- 'laws.FnExactIsHome': WHATEVER THE INPUT: true; the input reads as it did. -/
def fnExactIsHomeSpec : ChangeSpec := { name := "fnExactIsHome", fn := fun _ => fun
  | [d1, d2, d3, d4] => { results := [.lit (.bool true)], args := [d1, d2, d3, d4] }
  | _ => none }
def fnExactIsHomeRow : OpenClaim := { program := "ythkmdanahoongaa", sum := "a7b504a302abb00d0f835ab17c73326b6677d6e2bf5f6b72ff30d75eceaec639", func := "loop.example/g00662/laws.FnExactIsHome", spec := "fnExactIsHome", unfollowed := true, recurses := true, apart := false }
def FnExactIsHomeSaid : Prop := fnExactIsHomeRow.holds Try.pinned (OpenSpec.ofChange fnExactIsHomeSpec)

/-- ITS FALSE NEIGHBOUR: 'it returns false'. Refute it at one input. -/
def fnExactIsHomeWrong : ChangeSpec := { name := "fnExactIsHome", fn := fun _ => fun
  | [d1, d2, d3, d4] => { results := [.lit (.bool false)], args := [d1, d2, d3, d4] }
  | _ => none }
def FnExactIsHomeWrongFalsely : Prop := fnExactIsHomeRow.holds Try.pinned (OpenSpec.ofChange fnExactIsHomeWrong)

/-- 'laws.FnExactWayTo': WHATEVER THE INPUT: true; the input reads as it did. -/
def fnExactWayToSpec : ChangeSpec := { name := "fnExactWayTo", fn := fun _ => fun
  | [d1, d2, d3, d4] => { results := [.lit (.bool true)], args := [d1, d2, d3, d4] }
  | _ => none }
def fnExactWayToRow : OpenClaim := { program := "ythkmdanahoongaa", sum := "a7b504a302abb00d0f835ab17c73326b6677d6e2bf5f6b72ff30d75eceaec639", func := "loop.example/g00662/laws.FnExactWayTo", spec := "fnExactWayTo", unfollowed := true, recurses := true, apart := false }
def FnExactWayToSaid : Prop := fnExactWayToRow.holds Try.pinned (OpenSpec.ofChange fnExactWayToSpec)

/-- ITS FALSE NEIGHBOUR: 'it returns false'. Refute it at one input. -/
def fnExactWayToWrong : ChangeSpec := { name := "fnExactWayTo", fn := fun _ => fun
  | [d1, d2, d3, d4] => { results := [.lit (.bool false)], args := [d1, d2, d3, d4] }
  | _ => none }
def FnExactWayToWrongFalsely : Prop := fnExactWayToRow.holds Try.pinned (OpenSpec.ofChange fnExactWayToWrong)

/-- 'laws.FnExactExplore': WHATEVER THE INPUT: true; the input reads as it did. -/
def fnExactExploreSpec : ChangeSpec := { name := "fnExactExplore", fn := fun _ => fun
  | [d1, d2, d3] => { results := [.lit (.bool true)], args := [d1, d2, d3] }
  | _ => none }
def fnExactExploreRow : OpenClaim := { program := "ythkmdanahoongaa", sum := "a7b504a302abb00d0f835ab17c73326b6677d6e2bf5f6b72ff30d75eceaec639", func := "loop.example/g00662/laws.FnExactExplore", spec := "fnExactExplore", unfollowed := true, recurses := true, apart := false }
def FnExactExploreSaid : Prop := fnExactExploreRow.holds Try.pinned (OpenSpec.ofChange fnExactExploreSpec)

/-- ITS FALSE NEIGHBOUR: 'it returns false'. Refute it at one input. -/
def fnExactExploreWrong : ChangeSpec := { name := "fnExactExplore", fn := fun _ => fun
  | [d1, d2, d3] => { results := [.lit (.bool false)], args := [d1, d2, d3] }
  | _ => none }
def FnExactExploreWrongFalsely : Prop := fnExactExploreRow.holds Try.pinned (OpenSpec.ofChange fnExactExploreWrong)

/-- 'laws.FnExactCanCover': WHATEVER THE INPUT: true; the input reads as it did. -/
def fnExactCanCoverSpec : ChangeSpec := { name := "fnExactCanCover", fn := fun _ => fun
  | [d1, d2, d3, d4] => { results := [.lit (.bool true)], args := [d1, d2, d3, d4] }
  | _ => none }
def fnExactCanCoverRow : OpenClaim := { program := "ythkmdanahoongaa", sum := "a7b504a302abb00d0f835ab17c73326b6677d6e2bf5f6b72ff30d75eceaec639", func := "loop.example/g00662/laws.FnExactCanCover", spec := "fnExactCanCover", unfollowed := true, recurses := true, apart := false }
def FnExactCanCoverSaid : Prop := fnExactCanCoverRow.holds Try.pinned (OpenSpec.ofChange fnExactCanCoverSpec)

/-- ITS FALSE NEIGHBOUR: 'it returns false'. Refute it at one input. -/
def fnExactCanCoverWrong : ChangeSpec := { name := "fnExactCanCover", fn := fun _ => fun
  | [d1, d2, d3, d4] => { results := [.lit (.bool false)], args := [d1, d2, d3, d4] }
  | _ => none }
def FnExactCanCoverWrongFalsely : Prop := fnExactCanCoverRow.holds Try.pinned (OpenSpec.ofChange fnExactCanCoverWrong)

/-- 'laws.FnExactIsBounded': WHATEVER THE INPUT: true; the input reads as it did. -/
def fnExactIsBoundedSpec : ChangeSpec := { name := "fnExactIsBounded", fn := fun _ => fun
  | [d1, d2, d3] => { results := [.lit (.bool true)], args := [d1, d2, d3] }
  | _ => none }
def fnExactIsBoundedRow : OpenClaim := { program := "ythkmdanahoongaa", sum := "a7b504a302abb00d0f835ab17c73326b6677d6e2bf5f6b72ff30d75eceaec639", func := "loop.example/g00662/laws.FnExactIsBounded", spec := "fnExactIsBounded", unfollowed := true, recurses := true, apart := false }
def FnExactIsBoundedSaid : Prop := fnExactIsBoundedRow.holds Try.pinned (OpenSpec.ofChange fnExactIsBoundedSpec)

/-- ITS FALSE NEIGHBOUR: 'it returns false'. Refute it at one input. -/
def fnExactIsBoundedWrong : ChangeSpec := { name := "fnExactIsBounded", fn := fun _ => fun
  | [d1, d2, d3] => { results := [.lit (.bool false)], args := [d1, d2, d3] }
  | _ => none }
def FnExactIsBoundedWrongFalsely : Prop := fnExactIsBoundedRow.holds Try.pinned (OpenSpec.ofChange fnExactIsBoundedWrong)

/-- 'laws.FnExactUnlimited': WHATEVER THE INPUT: true; the input reads as it did. -/
def fnExactUnlimitedSpec : ChangeSpec := { name := "fnExactUnlimited", fn := fun _ => fun
  | [d1, d2, d3] => { results := [.lit (.bool true)], args := [d1, d2, d3] }
  | _ => none }
def fnExactUnlimitedRow : OpenClaim := { program := "ythkmdanahoongaa", sum := "a7b504a302abb00d0f835ab17c73326b6677d6e2bf5f6b72ff30d75eceaec639", func := "loop.example/g00662/laws.FnExactUnlimited", spec := "fnExactUnlimited", unfollowed := true, recurses := true, apart := false }
def FnExactUnlimitedSaid : Prop := fnExactUnlimitedRow.holds Try.pinned (OpenSpec.ofChange fnExactUnlimitedSpec)

/-- ITS FALSE NEIGHBOUR: 'it returns false'. Refute it at one input. -/
def fnExactUnlimitedWrong : ChangeSpec := { name := "fnExactUnlimited", fn := fun _ => fun
  | [d1, d2, d3] => { results := [.lit (.bool false)], args := [d1, d2, d3] }
  | _ => none }
def FnExactUnlimitedWrongFalsely : Prop := fnExactUnlimitedRow.holds Try.pinned (OpenSpec.ofChange fnExactUnlimitedWrong)

/-- 'laws.FnExactCoverTree': WHATEVER THE INPUT: true; the input reads as it did. -/
def fnExactCoverTreeSpec : ChangeSpec := { name := "fnExactCoverTree", fn := fun _ => fun
  | [d1, d2, d3] => { results := [.lit (.bool true)], args := [d1, d2, d3] }
  | _ => none }
def fnExactCoverTreeRow : OpenClaim := { program := "ythkmdanahoongaa", sum := "a7b504a302abb00d0f835ab17c73326b6677d6e2bf5f6b72ff30d75eceaec639", func := "loop.example/g00662/laws.FnExactCoverTree", spec := "fnExactCoverTree", unfollowed := true, recurses := true, apart := false }
def FnExactCoverTreeSaid : Prop := fnExactCoverTreeRow.holds Try.pinned (OpenSpec.ofChange fnExactCoverTreeSpec)

/-- ITS FALSE NEIGHBOUR: 'it returns false'. Refute it at one input. -/
def fnExactCoverTreeWrong : ChangeSpec := { name := "fnExactCoverTree", fn := fun _ => fun
  | [d1, d2, d3] => { results := [.lit (.bool false)], args := [d1, d2, d3] }
  | _ => none }
def FnExactCoverTreeWrongFalsely : Prop := fnExactCoverTreeRow.holds Try.pinned (OpenSpec.ofChange fnExactCoverTreeWrong)

/-- 'laws.FnExactLeastMarks': WHATEVER THE INPUT: true; the input reads as it did. -/
def fnExactLeastMarksSpec : ChangeSpec := { name := "fnExactLeastMarks", fn := fun _ => fun
  | [d1, d2] => { results := [.lit (.bool true)], args := [d1, d2] }
  | _ => none }
def fnExactLeastMarksRow : OpenClaim := { program := "ythkmdanahoongaa", sum := "a7b504a302abb00d0f835ab17c73326b6677d6e2bf5f6b72ff30d75eceaec639", func := "loop.example/g00662/laws.FnExactLeastMarks", spec := "fnExactLeastMarks", unfollowed := true, recurses := true, apart := false }
def FnExactLeastMarksSaid : Prop := fnExactLeastMarksRow.holds Try.pinned (OpenSpec.ofChange fnExactLeastMarksSpec)

/-- ITS FALSE NEIGHBOUR: 'it returns false'. Refute it at one input. -/
def fnExactLeastMarksWrong : ChangeSpec := { name := "fnExactLeastMarks", fn := fun _ => fun
  | [d1, d2] => { results := [.lit (.bool false)], args := [d1, d2] }
  | _ => none }
def FnExactLeastMarksWrongFalsely : Prop := fnExactLeastMarksRow.holds Try.pinned (OpenSpec.ofChange fnExactLeastMarksWrong)

/- THE SECOND FORM. 'bulk': how many values and letters a reading holds, each counted each time it is reached (what is shared counts as often as it is met; a slice's spare places count too). A statement '..UptoSaid' is the law's where the arguments, and the package variables that the reading takes, are together of bulk at most 1048576: NARROWER than '..Said'. Prove '..Said' where nothing that the law and all that it calls make is longer than what came in: it says more and counts as full. Else prove '..UptoSaid'. A law counts once. -/
mutual
def uptoBulk {H : Type} : DataW H → Nat
  | .lit (.string bytes) => bytes.length + 1
  | .lit _ => 1
  | .nil => 1
  | .ptr d => uptoBulk d + 1
  | .slice elems spare => uptoBulkAll elems + uptoBulkAll spare + 1
  | .agg parts => uptoBulkAll parts + 1
  | .iface _ d => uptoBulk d + 1
  | .map entries => uptoBulkEntries entries + 1
  | .held _ => 1
def uptoBulkAll {H : Type} : List (DataW H) → Nat
  | [] => 0
  | d :: r => uptoBulk d + uptoBulkAll r
def uptoBulkEntries {H : Type} : List (Lit × DataW H) → Nat
  | [] => 0
  | x :: r => uptoBulkEntry x + uptoBulkEntries r
def uptoBulkEntry {H : Type} : Lit × DataW H → Nat
  | (.string bytes, d) => bytes.length + uptoBulk d + 1
  | (_, d) => uptoBulk d + 1
 end
def uptoSmall : (H : Type) → List (DataW H) → Bool := fun _ ds => decide (uptoBulkAll ds ≤ 1048576)
def OpenSpec.upto (s : _root_.Go.ChangeSpec) : _root_.Go.OpenSpec := { _root_.Go.OpenSpec.ofChange s with cond := some uptoSmall }

/-- 'laws.FnExactCanCome', WHERE WHAT IT READS IS OF BULK AT MOST 1048576: true; the input reads as it did. -/
def fnExactCanComeUptoRow : OpenClaim := { program := "ythkmdanahoongaa", sum := "a7b504a302abb00d0f835ab17c73326b6677d6e2bf5f6b72ff30d75eceaec639", func := "loop.example/g00662/laws.FnExactCanCome", spec := "fnExactCanCome", unfollowed := true, recurses := true, apart := false, narrowed := true }
def FnExactCanComeUptoSaid : Prop := fnExactCanComeUptoRow.holds Try.pinned (OpenSpec.upto fnExactCanComeSpec)

/-- 'laws.FnExactBoundOf', WHERE WHAT IT READS IS OF BULK AT MOST 1048576: true; the input reads as it did. -/
def fnExactBoundOfUptoRow : OpenClaim := { program := "ythkmdanahoongaa", sum := "a7b504a302abb00d0f835ab17c73326b6677d6e2bf5f6b72ff30d75eceaec639", func := "loop.example/g00662/laws.FnExactBoundOf", spec := "fnExactBoundOf", unfollowed := true, recurses := true, apart := false, narrowed := true }
def FnExactBoundOfUptoSaid : Prop := fnExactBoundOfUptoRow.holds Try.pinned (OpenSpec.upto fnExactBoundOfSpec)

/-- 'laws.FnExactFirstDead', WHERE WHAT IT READS IS OF BULK AT MOST 1048576: true; the input reads as it did. -/
def fnExactFirstDeadUptoRow : OpenClaim := { program := "ythkmdanahoongaa", sum := "a7b504a302abb00d0f835ab17c73326b6677d6e2bf5f6b72ff30d75eceaec639", func := "loop.example/g00662/laws.FnExactFirstDead", spec := "fnExactFirstDead", unfollowed := true, recurses := true, apart := false, narrowed := true }
def FnExactFirstDeadUptoSaid : Prop := fnExactFirstDeadUptoRow.holds Try.pinned (OpenSpec.upto fnExactFirstDeadSpec)

/-- 'laws.FnExactDeadTrans', WHERE WHAT IT READS IS OF BULK AT MOST 1048576: true; the input reads as it did. -/
def fnExactDeadTransUptoRow : OpenClaim := { program := "ythkmdanahoongaa", sum := "a7b504a302abb00d0f835ab17c73326b6677d6e2bf5f6b72ff30d75eceaec639", func := "loop.example/g00662/laws.FnExactDeadTrans", spec := "fnExactDeadTrans", unfollowed := true, recurses := true, apart := false, narrowed := true }
def FnExactDeadTransUptoSaid : Prop := fnExactDeadTransUptoRow.holds Try.pinned (OpenSpec.upto fnExactDeadTransSpec)

/-- 'laws.FnExactIsHome', WHERE WHAT IT READS IS OF BULK AT MOST 1048576: true; the input reads as it did. -/
def fnExactIsHomeUptoRow : OpenClaim := { program := "ythkmdanahoongaa", sum := "a7b504a302abb00d0f835ab17c73326b6677d6e2bf5f6b72ff30d75eceaec639", func := "loop.example/g00662/laws.FnExactIsHome", spec := "fnExactIsHome", unfollowed := true, recurses := true, apart := false, narrowed := true }
def FnExactIsHomeUptoSaid : Prop := fnExactIsHomeUptoRow.holds Try.pinned (OpenSpec.upto fnExactIsHomeSpec)

/-- 'laws.FnExactWayTo', WHERE WHAT IT READS IS OF BULK AT MOST 1048576: true; the input reads as it did. -/
def fnExactWayToUptoRow : OpenClaim := { program := "ythkmdanahoongaa", sum := "a7b504a302abb00d0f835ab17c73326b6677d6e2bf5f6b72ff30d75eceaec639", func := "loop.example/g00662/laws.FnExactWayTo", spec := "fnExactWayTo", unfollowed := true, recurses := true, apart := false, narrowed := true }
def FnExactWayToUptoSaid : Prop := fnExactWayToUptoRow.holds Try.pinned (OpenSpec.upto fnExactWayToSpec)

/-- 'laws.FnExactExplore', WHERE WHAT IT READS IS OF BULK AT MOST 1048576: true; the input reads as it did. -/
def fnExactExploreUptoRow : OpenClaim := { program := "ythkmdanahoongaa", sum := "a7b504a302abb00d0f835ab17c73326b6677d6e2bf5f6b72ff30d75eceaec639", func := "loop.example/g00662/laws.FnExactExplore", spec := "fnExactExplore", unfollowed := true, recurses := true, apart := false, narrowed := true }
def FnExactExploreUptoSaid : Prop := fnExactExploreUptoRow.holds Try.pinned (OpenSpec.upto fnExactExploreSpec)

/-- 'laws.FnExactCanCover', WHERE WHAT IT READS IS OF BULK AT MOST 1048576: true; the input reads as it did. -/
def fnExactCanCoverUptoRow : OpenClaim := { program := "ythkmdanahoongaa", sum := "a7b504a302abb00d0f835ab17c73326b6677d6e2bf5f6b72ff30d75eceaec639", func := "loop.example/g00662/laws.FnExactCanCover", spec := "fnExactCanCover", unfollowed := true, recurses := true, apart := false, narrowed := true }
def FnExactCanCoverUptoSaid : Prop := fnExactCanCoverUptoRow.holds Try.pinned (OpenSpec.upto fnExactCanCoverSpec)

/-- 'laws.FnExactIsBounded', WHERE WHAT IT READS IS OF BULK AT MOST 1048576: true; the input reads as it did. -/
def fnExactIsBoundedUptoRow : OpenClaim := { program := "ythkmdanahoongaa", sum := "a7b504a302abb00d0f835ab17c73326b6677d6e2bf5f6b72ff30d75eceaec639", func := "loop.example/g00662/laws.FnExactIsBounded", spec := "fnExactIsBounded", unfollowed := true, recurses := true, apart := false, narrowed := true }
def FnExactIsBoundedUptoSaid : Prop := fnExactIsBoundedUptoRow.holds Try.pinned (OpenSpec.upto fnExactIsBoundedSpec)

/-- 'laws.FnExactUnlimited', WHERE WHAT IT READS IS OF BULK AT MOST 1048576: true; the input reads as it did. -/
def fnExactUnlimitedUptoRow : OpenClaim := { program := "ythkmdanahoongaa", sum := "a7b504a302abb00d0f835ab17c73326b6677d6e2bf5f6b72ff30d75eceaec639", func := "loop.example/g00662/laws.FnExactUnlimited", spec := "fnExactUnlimited", unfollowed := true, recurses := true, apart := false, narrowed := true }
def FnExactUnlimitedUptoSaid : Prop := fnExactUnlimitedUptoRow.holds Try.pinned (OpenSpec.upto fnExactUnlimitedSpec)

/-- 'laws.FnExactCoverTree', WHERE WHAT IT READS IS OF BULK AT MOST 1048576: true; the input reads as it did. -/
def fnExactCoverTreeUptoRow : OpenClaim := { program := "ythkmdanahoongaa", sum := "a7b504a302abb00d0f835ab17c73326b6677d6e2bf5f6b72ff30d75eceaec639", func := "loop.example/g00662/laws.FnExactCoverTree", spec := "fnExactCoverTree", unfollowed := true, recurses := true, apart := false, narrowed := true }
def FnExactCoverTreeUptoSaid : Prop := fnExactCoverTreeUptoRow.holds Try.pinned (OpenSpec.upto fnExactCoverTreeSpec)

/-- 'laws.FnExactLeastMarks', WHERE WHAT IT READS IS OF BULK AT MOST 1048576: true; the input reads as it did. -/
def fnExactLeastMarksUptoRow : OpenClaim := { program := "ythkmdanahoongaa", sum := "a7b504a302abb00d0f835ab17c73326b6677d6e2bf5f6b72ff30d75eceaec639", func := "loop.example/g00662/laws.FnExactLeastMarks", spec := "fnExactLeastMarks", unfollowed := true, recurses := true, apart := false, narrowed := true }
def FnExactLeastMarksUptoSaid : Prop := fnExactLeastMarksUptoRow.holds Try.pinned (OpenSpec.upto fnExactLeastMarksSpec)

end Rows
end Go.Proofs.Ythkmdanahoongaa
