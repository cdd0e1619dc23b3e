/-
  No cell of these rows narrows 'for every input' (looked for: loops, veiled, ifaces, maps, wideKeys, modest, calm, conditions, laid).
  DERIVED. THE GIVEN ROWS OF THIS SEAT. 12 by the template 'for every input the law returns true; each argument reads behind the call as it read before'; 0 by the template 'total and deterministic' (their statements: YtffdacmdgfpnmaaTotals.lean).
  GIVEN WITH THE SEED: the statements are not yours to turn. If you find one false, say at which input.
  Laid BY PROGRAM, IN A SANDBOX (cutbox-rows.mjs): the forced cells as the released guide's own fill.sh prints them over the translation a677931649680b71… (all of the seat's roots in one cut). By AI agents, Wed Nov 11 2026. No macro, syntax, notation, axiom, sorry.
-/
import Derived.Test.YtffdacmdgfpnmaaChecked
import GoSem.Claim
import GoSem.ClaimJoined
import GoSem.ClaimMapViews
import Derived.JoinedTies
import Derived.KernelRfl
namespace Go.Proofs.Ytffdacmdgfpnmaa
/- THE CELL 'sum', in the pinned program and in every row, IS THE sha256 OF THE DUMP (.gsa) THAT YtffdacmdgfpnmaaProg.lean LOADS. Nothing in Lean hashes anything: it is a label: what it is worth is what the hold of that sum in a sandbox is worth. -/
noncomputable def Try.pinned : Pinned := { name := "ytffdacmdgfpnmaa", sum := "a677931649680b71df7f7eb09318c271c78f6eee229c619e9d9af9a0db852013", checked := Try.checked }
namespace Rows
def none {H : Type} : Left H := { results := [], args := [] }

/-- 'laws.FnExactIsCycle': WHATEVER THE INPUT: true; the input reads as it did. -/
def fnExactIsCycleSpec : ChangeSpec := { name := "fnExactIsCycle", fn := fun _ => fun
  | [d1, d2] => { results := [.lit (.bool true)], args := [d1, d2] }
  | _ => none }
def fnExactIsCycleRow : OpenClaim := { program := "ytffdacmdgfpnmaa", sum := "a677931649680b71df7f7eb09318c271c78f6eee229c619e9d9af9a0db852013", func := "loop.example/g00662/laws.FnExactIsCycle", spec := "fnExactIsCycle", unfollowed := true, recurses := true, apart := false }
def FnExactIsCycleSaid : Prop := fnExactIsCycleRow.holds Try.pinned (OpenSpec.ofChange fnExactIsCycleSpec)

/-- ITS FALSE NEIGHBOUR: 'it returns false'. Refute it at one input. -/
def fnExactIsCycleWrong : ChangeSpec := { name := "fnExactIsCycle", fn := fun _ => fun
  | [d1, d2] => { results := [.lit (.bool false)], args := [d1, d2] }
  | _ => none }
def FnExactIsCycleWrongFalsely : Prop := fnExactIsCycleRow.holds Try.pinned (OpenSpec.ofChange fnExactIsCycleWrong)

/-- 'laws.FnExactWeightOf': WHATEVER THE INPUT: true; the input reads as it did. -/
def fnExactWeightOfSpec : ChangeSpec := { name := "fnExactWeightOf", fn := fun _ => fun
  | [d1, d2, d3] => { results := [.lit (.bool true)], args := [d1, d2, d3] }
  | _ => none }
def fnExactWeightOfRow : OpenClaim := { program := "ytffdacmdgfpnmaa", sum := "a677931649680b71df7f7eb09318c271c78f6eee229c619e9d9af9a0db852013", func := "loop.example/g00662/laws.FnExactWeightOf", spec := "fnExactWeightOf", unfollowed := true, recurses := true, apart := false }
def FnExactWeightOfSaid : Prop := fnExactWeightOfRow.holds Try.pinned (OpenSpec.ofChange fnExactWeightOfSpec)

/-- ITS FALSE NEIGHBOUR: 'it returns false'. Refute it at one input. -/
def fnExactWeightOfWrong : ChangeSpec := { name := "fnExactWeightOf", fn := fun _ => fun
  | [d1, d2, d3] => { results := [.lit (.bool false)], args := [d1, d2, d3] }
  | _ => none }
def FnExactWeightOfWrongFalsely : Prop := fnExactWeightOfRow.holds Try.pinned (OpenSpec.ofChange fnExactWeightOfWrong)

/-- 'laws.FnExactIsInvariant': WHATEVER THE INPUT: true; the input reads as it did. -/
def fnExactIsInvariantSpec : ChangeSpec := { name := "fnExactIsInvariant", fn := fun _ => fun
  | [d1, d2] => { results := [.lit (.bool true)], args := [d1, d2] }
  | _ => none }
def fnExactIsInvariantRow : OpenClaim := { program := "ytffdacmdgfpnmaa", sum := "a677931649680b71df7f7eb09318c271c78f6eee229c619e9d9af9a0db852013", func := "loop.example/g00662/laws.FnExactIsInvariant", spec := "fnExactIsInvariant", unfollowed := true, recurses := true, apart := false }
def FnExactIsInvariantSaid : Prop := fnExactIsInvariantRow.holds Try.pinned (OpenSpec.ofChange fnExactIsInvariantSpec)

/-- ITS FALSE NEIGHBOUR: 'it returns false'. Refute it at one input. -/
def fnExactIsInvariantWrong : ChangeSpec := { name := "fnExactIsInvariant", fn := fun _ => fun
  | [d1, d2] => { results := [.lit (.bool false)], args := [d1, d2] }
  | _ => none }
def FnExactIsInvariantWrongFalsely : Prop := fnExactIsInvariantRow.holds Try.pinned (OpenSpec.ofChange fnExactIsInvariantWrong)

/-- 'laws.FnExactCountsOf': WHATEVER THE INPUT: true; the input reads as it did. -/
def fnExactCountsOfSpec : ChangeSpec := { name := "fnExactCountsOf", fn := fun _ => fun
  | [d1, d2] => { results := [.lit (.bool true)], args := [d1, d2] }
  | _ => none }
def fnExactCountsOfRow : OpenClaim := { program := "ytffdacmdgfpnmaa", sum := "a677931649680b71df7f7eb09318c271c78f6eee229c619e9d9af9a0db852013", func := "loop.example/g00662/laws.FnExactCountsOf", spec := "fnExactCountsOf", unfollowed := true, recurses := true, apart := false }
def FnExactCountsOfSaid : Prop := fnExactCountsOfRow.holds Try.pinned (OpenSpec.ofChange fnExactCountsOfSpec)

/-- ITS FALSE NEIGHBOUR: 'it returns false'. Refute it at one input. -/
def fnExactCountsOfWrong : ChangeSpec := { name := "fnExactCountsOf", fn := fun _ => fun
  | [d1, d2] => { results := [.lit (.bool false)], args := [d1, d2] }
  | _ => none }
def FnExactCountsOfWrongFalsely : Prop := fnExactCountsOfRow.holds Try.pinned (OpenSpec.ofChange fnExactCountsOfWrong)

/-- 'laws.FnExactChangeBy': WHATEVER THE INPUT: true; the input reads as it did. -/
def fnExactChangeBySpec : ChangeSpec := { name := "fnExactChangeBy", fn := fun _ => fun
  | [d1, d2] => { results := [.lit (.bool true)], args := [d1, d2] }
  | _ => none }
def fnExactChangeByRow : OpenClaim := { program := "ytffdacmdgfpnmaa", sum := "a677931649680b71df7f7eb09318c271c78f6eee229c619e9d9af9a0db852013", func := "loop.example/g00662/laws.FnExactChangeBy", spec := "fnExactChangeBy", unfollowed := true, recurses := true, apart := false }
def FnExactChangeBySaid : Prop := fnExactChangeByRow.holds Try.pinned (OpenSpec.ofChange fnExactChangeBySpec)

/-- ITS FALSE NEIGHBOUR: 'it returns false'. Refute it at one input. -/
def fnExactChangeByWrong : ChangeSpec := { name := "fnExactChangeBy", fn := fun _ => fun
  | [d1, d2] => { results := [.lit (.bool false)], args := [d1, d2] }
  | _ => none }
def FnExactChangeByWrongFalsely : Prop := fnExactChangeByRow.holds Try.pinned (OpenSpec.ofChange fnExactChangeByWrong)

/-- 'laws.FnExactIsTrap': WHATEVER THE INPUT: true; the input reads as it did. -/
def fnExactIsTrapSpec : ChangeSpec := { name := "fnExactIsTrap", fn := fun _ => fun
  | [d1, d2] => { results := [.lit (.bool true)], args := [d1, d2] }
  | _ => none }
def fnExactIsTrapRow : OpenClaim := { program := "ytffdacmdgfpnmaa", sum := "a677931649680b71df7f7eb09318c271c78f6eee229c619e9d9af9a0db852013", func := "loop.example/g00662/laws.FnExactIsTrap", spec := "fnExactIsTrap", unfollowed := true, recurses := true, apart := false }
def FnExactIsTrapSaid : Prop := fnExactIsTrapRow.holds Try.pinned (OpenSpec.ofChange fnExactIsTrapSpec)

/-- ITS FALSE NEIGHBOUR: 'it returns false'. Refute it at one input. -/
def fnExactIsTrapWrong : ChangeSpec := { name := "fnExactIsTrap", fn := fun _ => fun
  | [d1, d2] => { results := [.lit (.bool false)], args := [d1, d2] }
  | _ => none }
def FnExactIsTrapWrongFalsely : Prop := fnExactIsTrapRow.holds Try.pinned (OpenSpec.ofChange fnExactIsTrapWrong)

/-- 'laws.FnExactIsSiphon': WHATEVER THE INPUT: true; the input reads as it did. -/
def fnExactIsSiphonSpec : ChangeSpec := { name := "fnExactIsSiphon", fn := fun _ => fun
  | [d1, d2] => { results := [.lit (.bool true)], args := [d1, d2] }
  | _ => none }
def fnExactIsSiphonRow : OpenClaim := { program := "ytffdacmdgfpnmaa", sum := "a677931649680b71df7f7eb09318c271c78f6eee229c619e9d9af9a0db852013", func := "loop.example/g00662/laws.FnExactIsSiphon", spec := "fnExactIsSiphon", unfollowed := true, recurses := true, apart := false }
def FnExactIsSiphonSaid : Prop := fnExactIsSiphonRow.holds Try.pinned (OpenSpec.ofChange fnExactIsSiphonSpec)

/-- ITS FALSE NEIGHBOUR: 'it returns false'. Refute it at one input. -/
def fnExactIsSiphonWrong : ChangeSpec := { name := "fnExactIsSiphon", fn := fun _ => fun
  | [d1, d2] => { results := [.lit (.bool false)], args := [d1, d2] }
  | _ => none }
def FnExactIsSiphonWrongFalsely : Prop := fnExactIsSiphonRow.holds Try.pinned (OpenSpec.ofChange fnExactIsSiphonWrong)

/-- 'laws.FnExactBigSiphon': WHATEVER THE INPUT: true; the input reads as it did. -/
def fnExactBigSiphonSpec : ChangeSpec := { name := "fnExactBigSiphon", fn := fun _ => fun
  | [d1, d2] => { results := [.lit (.bool true)], args := [d1, d2] }
  | _ => none }
def fnExactBigSiphonRow : OpenClaim := { program := "ytffdacmdgfpnmaa", sum := "a677931649680b71df7f7eb09318c271c78f6eee229c619e9d9af9a0db852013", func := "loop.example/g00662/laws.FnExactBigSiphon", spec := "fnExactBigSiphon", unfollowed := true, recurses := true, apart := false }
def FnExactBigSiphonSaid : Prop := fnExactBigSiphonRow.holds Try.pinned (OpenSpec.ofChange fnExactBigSiphonSpec)

/-- ITS FALSE NEIGHBOUR: 'it returns false'. Refute it at one input. -/
def fnExactBigSiphonWrong : ChangeSpec := { name := "fnExactBigSiphon", fn := fun _ => fun
  | [d1, d2] => { results := [.lit (.bool false)], args := [d1, d2] }
  | _ => none }
def FnExactBigSiphonWrongFalsely : Prop := fnExactBigSiphonRow.holds Try.pinned (OpenSpec.ofChange fnExactBigSiphonWrong)

/-- 'laws.FnExactBigTrap': WHATEVER THE INPUT: true; the input reads as it did. -/
def fnExactBigTrapSpec : ChangeSpec := { name := "fnExactBigTrap", fn := fun _ => fun
  | [d1, d2] => { results := [.lit (.bool true)], args := [d1, d2] }
  | _ => none }
def fnExactBigTrapRow : OpenClaim := { program := "ytffdacmdgfpnmaa", sum := "a677931649680b71df7f7eb09318c271c78f6eee229c619e9d9af9a0db852013", func := "loop.example/g00662/laws.FnExactBigTrap", spec := "fnExactBigTrap", unfollowed := true, recurses := true, apart := false }
def FnExactBigTrapSaid : Prop := fnExactBigTrapRow.holds Try.pinned (OpenSpec.ofChange fnExactBigTrapSpec)

/-- ITS FALSE NEIGHBOUR: 'it returns false'. Refute it at one input. -/
def fnExactBigTrapWrong : ChangeSpec := { name := "fnExactBigTrap", fn := fun _ => fun
  | [d1, d2] => { results := [.lit (.bool false)], args := [d1, d2] }
  | _ => none }
def FnExactBigTrapWrongFalsely : Prop := fnExactBigTrapRow.holds Try.pinned (OpenSpec.ofChange fnExactBigTrapWrong)

/-- 'laws.FnExactSmallSiphons': WHATEVER THE INPUT: true; the input reads as it did. -/
def fnExactSmallSiphonsSpec : ChangeSpec := { name := "fnExactSmallSiphons", fn := fun _ => fun
  | [d] => { results := [.lit (.bool true)], args := [d] }
  | _ => none }
def fnExactSmallSiphonsRow : OpenClaim := { program := "ytffdacmdgfpnmaa", sum := "a677931649680b71df7f7eb09318c271c78f6eee229c619e9d9af9a0db852013", func := "loop.example/g00662/laws.FnExactSmallSiphons", spec := "fnExactSmallSiphons", unfollowed := true, recurses := true, apart := false }
def FnExactSmallSiphonsSaid : Prop := fnExactSmallSiphonsRow.holds Try.pinned (OpenSpec.ofChange fnExactSmallSiphonsSpec)

/-- ITS FALSE NEIGHBOUR: 'it returns false'. Refute it at one input. -/
def fnExactSmallSiphonsWrong : ChangeSpec := { name := "fnExactSmallSiphons", fn := fun _ => fun
  | [d] => { results := [.lit (.bool false)], args := [d] }
  | _ => none }
def FnExactSmallSiphonsWrongFalsely : Prop := fnExactSmallSiphonsRow.holds Try.pinned (OpenSpec.ofChange fnExactSmallSiphonsWrong)

/-- 'laws.FnExactIsGuarded': WHATEVER THE INPUT: true; the input reads as it did. -/
def fnExactIsGuardedSpec : ChangeSpec := { name := "fnExactIsGuarded", fn := fun _ => fun
  | [d1, d2] => { results := [.lit (.bool true)], args := [d1, d2] }
  | _ => none }
def fnExactIsGuardedRow : OpenClaim := { program := "ytffdacmdgfpnmaa", sum := "a677931649680b71df7f7eb09318c271c78f6eee229c619e9d9af9a0db852013", func := "loop.example/g00662/laws.FnExactIsGuarded", spec := "fnExactIsGuarded", unfollowed := true, recurses := true, apart := false }
def FnExactIsGuardedSaid : Prop := fnExactIsGuardedRow.holds Try.pinned (OpenSpec.ofChange fnExactIsGuardedSpec)

/-- ITS FALSE NEIGHBOUR: 'it returns false'. Refute it at one input. -/
def fnExactIsGuardedWrong : ChangeSpec := { name := "fnExactIsGuarded", fn := fun _ => fun
  | [d1, d2] => { results := [.lit (.bool false)], args := [d1, d2] }
  | _ => none }
def FnExactIsGuardedWrongFalsely : Prop := fnExactIsGuardedRow.holds Try.pinned (OpenSpec.ofChange fnExactIsGuardedWrong)

/-- 'laws.FnExactSmallInvariants': WHATEVER THE INPUT: true; the input reads as it did. -/
def fnExactSmallInvariantsSpec : ChangeSpec := { name := "fnExactSmallInvariants", fn := fun _ => fun
  | [d] => { results := [.lit (.bool true)], args := [d] }
  | _ => none }
def fnExactSmallInvariantsRow : OpenClaim := { program := "ytffdacmdgfpnmaa", sum := "a677931649680b71df7f7eb09318c271c78f6eee229c619e9d9af9a0db852013", func := "loop.example/g00662/laws.FnExactSmallInvariants", spec := "fnExactSmallInvariants", unfollowed := true, recurses := true, apart := false }
def FnExactSmallInvariantsSaid : Prop := fnExactSmallInvariantsRow.holds Try.pinned (OpenSpec.ofChange fnExactSmallInvariantsSpec)

/-- ITS FALSE NEIGHBOUR: 'it returns false'. Refute it at one input. -/
def fnExactSmallInvariantsWrong : ChangeSpec := { name := "fnExactSmallInvariants", fn := fun _ => fun
  | [d] => { results := [.lit (.bool false)], args := [d] }
  | _ => none }
def FnExactSmallInvariantsWrongFalsely : Prop := fnExactSmallInvariantsRow.holds Try.pinned (OpenSpec.ofChange fnExactSmallInvariantsWrong)

/- THE SECOND FORM. 'bulk': how many values and letters a reading holds, each counted each time it is reached (what is shared counts as often as it is met; a slice's spare places count too). A statement '..UptoSaid' is the law's where the arguments, and the package variables that the reading takes, are together of bulk at most 1048576: NARROWER than '..Said'. Prove '..Said' where nothing that the law and all that it calls make is longer than what came in: it says more and counts as full. Else prove '..UptoSaid'. A law counts once. -/
mutual
def uptoBulk {H : Type} : DataW H → Nat
  | .lit (.string bytes) => bytes.length + 1
  | .lit _ => 1
  | .nil => 1
  | .ptr d => uptoBulk d + 1
  | .slice elems spare => uptoBulkAll elems + uptoBulkAll spare + 1
  | .agg parts => uptoBulkAll parts + 1
  | .iface _ d => uptoBulk d + 1
  | .map entries => uptoBulkEntries entries + 1
  | .held _ => 1
def uptoBulkAll {H : Type} : List (DataW H) → Nat
  | [] => 0
  | d :: r => uptoBulk d + uptoBulkAll r
def uptoBulkEntries {H : Type} : List (Lit × DataW H) → Nat
  | [] => 0
  | x :: r => uptoBulkEntry x + uptoBulkEntries r
def uptoBulkEntry {H : Type} : Lit × DataW H → Nat
  | (.string bytes, d) => bytes.length + uptoBulk d + 1
  | (_, d) => uptoBulk d + 1
 end
def uptoSmall : (H : Type) → List (DataW H) → Bool := fun _ ds => decide (uptoBulkAll ds ≤ 1048576)
def OpenSpec.upto (s : _root_.Go.ChangeSpec) : _root_.Go.OpenSpec := { _root_.Go.OpenSpec.ofChange s with cond := some uptoSmall }

/-- 'laws.FnExactIsCycle', WHERE WHAT IT READS IS OF BULK AT MOST 1048576: true; the input reads as it did. -/
def fnExactIsCycleUptoRow : OpenClaim := { program := "ytffdacmdgfpnmaa", sum := "a677931649680b71df7f7eb09318c271c78f6eee229c619e9d9af9a0db852013", func := "loop.example/g00662/laws.FnExactIsCycle", spec := "fnExactIsCycle", unfollowed := true, recurses := true, apart := false, narrowed := true }
def FnExactIsCycleUptoSaid : Prop := fnExactIsCycleUptoRow.holds Try.pinned (OpenSpec.upto fnExactIsCycleSpec)

/-- 'laws.FnExactWeightOf', WHERE WHAT IT READS IS OF BULK AT MOST 1048576: true; the input reads as it did. -/
def fnExactWeightOfUptoRow : OpenClaim := { program := "ytffdacmdgfpnmaa", sum := "a677931649680b71df7f7eb09318c271c78f6eee229c619e9d9af9a0db852013", func := "loop.example/g00662/laws.FnExactWeightOf", spec := "fnExactWeightOf", unfollowed := true, recurses := true, apart := false, narrowed := true }
def FnExactWeightOfUptoSaid : Prop := fnExactWeightOfUptoRow.holds Try.pinned (OpenSpec.upto fnExactWeightOfSpec)

/-- 'laws.FnExactIsInvariant', WHERE WHAT IT READS IS OF BULK AT MOST 1048576: true; the input reads as it did. -/
def fnExactIsInvariantUptoRow : OpenClaim := { program := "ytffdacmdgfpnmaa", sum := "a677931649680b71df7f7eb09318c271c78f6eee229c619e9d9af9a0db852013", func := "loop.example/g00662/laws.FnExactIsInvariant", spec := "fnExactIsInvariant", unfollowed := true, recurses := true, apart := false, narrowed := true }
def FnExactIsInvariantUptoSaid : Prop := fnExactIsInvariantUptoRow.holds Try.pinned (OpenSpec.upto fnExactIsInvariantSpec)

/-- 'laws.FnExactCountsOf', WHERE WHAT IT READS IS OF BULK AT MOST 1048576: true; the input reads as it did. -/
def fnExactCountsOfUptoRow : OpenClaim := { program := "ytffdacmdgfpnmaa", sum := "a677931649680b71df7f7eb09318c271c78f6eee229c619e9d9af9a0db852013", func := "loop.example/g00662/laws.FnExactCountsOf", spec := "fnExactCountsOf", unfollowed := true, recurses := true, apart := false, narrowed := true }
def FnExactCountsOfUptoSaid : Prop := fnExactCountsOfUptoRow.holds Try.pinned (OpenSpec.upto fnExactCountsOfSpec)

/-- 'laws.FnExactChangeBy', WHERE WHAT IT READS IS OF BULK AT MOST 1048576: true; the input reads as it did. -/
def fnExactChangeByUptoRow : OpenClaim := { program := "ytffdacmdgfpnmaa", sum := "a677931649680b71df7f7eb09318c271c78f6eee229c619e9d9af9a0db852013", func := "loop.example/g00662/laws.FnExactChangeBy", spec := "fnExactChangeBy", unfollowed := true, recurses := true, apart := false, narrowed := true }
def FnExactChangeByUptoSaid : Prop := fnExactChangeByUptoRow.holds Try.pinned (OpenSpec.upto fnExactChangeBySpec)

/-- 'laws.FnExactIsTrap', WHERE WHAT IT READS IS OF BULK AT MOST 1048576: true; the input reads as it did. -/
def fnExactIsTrapUptoRow : OpenClaim := { program := "ytffdacmdgfpnmaa", sum := "a677931649680b71df7f7eb09318c271c78f6eee229c619e9d9af9a0db852013", func := "loop.example/g00662/laws.FnExactIsTrap", spec := "fnExactIsTrap", unfollowed := true, recurses := true, apart := false, narrowed := true }
def FnExactIsTrapUptoSaid : Prop := fnExactIsTrapUptoRow.holds Try.pinned (OpenSpec.upto fnExactIsTrapSpec)

/-- 'laws.FnExactIsSiphon', WHERE WHAT IT READS IS OF BULK AT MOST 1048576: true; the input reads as it did. -/
def fnExactIsSiphonUptoRow : OpenClaim := { program := "ytffdacmdgfpnmaa", sum := "a677931649680b71df7f7eb09318c271c78f6eee229c619e9d9af9a0db852013", func := "loop.example/g00662/laws.FnExactIsSiphon", spec := "fnExactIsSiphon", unfollowed := true, recurses := true, apart := false, narrowed := true }
def FnExactIsSiphonUptoSaid : Prop := fnExactIsSiphonUptoRow.holds Try.pinned (OpenSpec.upto fnExactIsSiphonSpec)

/-- 'laws.FnExactBigSiphon', WHERE WHAT IT READS IS OF BULK AT MOST 1048576: true; the input reads as it did. -/
def fnExactBigSiphonUptoRow : OpenClaim := { program := "ytffdacmdgfpnmaa", sum := "a677931649680b71df7f7eb09318c271c78f6eee229c619e9d9af9a0db852013", func := "loop.example/g00662/laws.FnExactBigSiphon", spec := "fnExactBigSiphon", unfollowed := true, recurses := true, apart := false, narrowed := true }
def FnExactBigSiphonUptoSaid : Prop := fnExactBigSiphonUptoRow.holds Try.pinned (OpenSpec.upto fnExactBigSiphonSpec)

/-- 'laws.FnExactBigTrap', WHERE WHAT IT READS IS OF BULK AT MOST 1048576: true; the input reads as it did. -/
def fnExactBigTrapUptoRow : OpenClaim := { program := "ytffdacmdgfpnmaa", sum := "a677931649680b71df7f7eb09318c271c78f6eee229c619e9d9af9a0db852013", func := "loop.example/g00662/laws.FnExactBigTrap", spec := "fnExactBigTrap", unfollowed := true, recurses := true, apart := false, narrowed := true }
def FnExactBigTrapUptoSaid : Prop := fnExactBigTrapUptoRow.holds Try.pinned (OpenSpec.upto fnExactBigTrapSpec)

/-- 'laws.FnExactSmallSiphons', WHERE WHAT IT READS IS OF BULK AT MOST 1048576: true; the input reads as it did. -/
def fnExactSmallSiphonsUptoRow : OpenClaim := { program := "ytffdacmdgfpnmaa", sum := "a677931649680b71df7f7eb09318c271c78f6eee229c619e9d9af9a0db852013", func := "loop.example/g00662/laws.FnExactSmallSiphons", spec := "fnExactSmallSiphons", unfollowed := true, recurses := true, apart := false, narrowed := true }
def FnExactSmallSiphonsUptoSaid : Prop := fnExactSmallSiphonsUptoRow.holds Try.pinned (OpenSpec.upto fnExactSmallSiphonsSpec)

/-- 'laws.FnExactIsGuarded', WHERE WHAT IT READS IS OF BULK AT MOST 1048576: true; the input reads as it did. -/
def fnExactIsGuardedUptoRow : OpenClaim := { program := "ytffdacmdgfpnmaa", sum := "a677931649680b71df7f7eb09318c271c78f6eee229c619e9d9af9a0db852013", func := "loop.example/g00662/laws.FnExactIsGuarded", spec := "fnExactIsGuarded", unfollowed := true, recurses := true, apart := false, narrowed := true }
def FnExactIsGuardedUptoSaid : Prop := fnExactIsGuardedUptoRow.holds Try.pinned (OpenSpec.upto fnExactIsGuardedSpec)

/-- 'laws.FnExactSmallInvariants', WHERE WHAT IT READS IS OF BULK AT MOST 1048576: true; the input reads as it did. -/
def fnExactSmallInvariantsUptoRow : OpenClaim := { program := "ytffdacmdgfpnmaa", sum := "a677931649680b71df7f7eb09318c271c78f6eee229c619e9d9af9a0db852013", func := "loop.example/g00662/laws.FnExactSmallInvariants", spec := "fnExactSmallInvariants", unfollowed := true, recurses := true, apart := false, narrowed := true }
def FnExactSmallInvariantsUptoSaid : Prop := fnExactSmallInvariantsUptoRow.holds Try.pinned (OpenSpec.upto fnExactSmallInvariantsSpec)

end Rows
end Go.Proofs.Ytffdacmdgfpnmaa
