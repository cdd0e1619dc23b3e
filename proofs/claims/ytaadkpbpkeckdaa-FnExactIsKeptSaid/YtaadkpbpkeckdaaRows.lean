/-
  No cell of these rows narrows 'for every input' (looked for: loops, veiled, ifaces, maps, wideKeys, modest, calm, conditions, laid).
  DERIVED. THE GIVEN ROWS OF THIS SEAT. 10 by the template 'for every input the law returns true; each argument reads behind the call as it read before'; 0 by the template 'total and deterministic' (their statements: YtaadkpbpkeckdaaTotals.lean).
  GIVEN WITH THE SEED: the statements are not yours to turn. If you find one false, say at which input.
  Laid BY PROGRAM, IN A SANDBOX (cutbox-rows.mjs): the forced cells as the released guide's own fill.sh prints them over the translation 8bbcb64b2a239199… (all of the seat's roots in one cut). By AI agents, Wed Nov 11 2026. No macro, syntax, notation, axiom, sorry.
-/
import Derived.Test.YtaadkpbpkeckdaaChecked
import GoSem.Claim
import GoSem.ClaimJoined
import GoSem.ClaimMapViews
import Derived.JoinedTies
import Derived.KernelRfl
namespace Go.Proofs.Ytaadkpbpkeckdaa
/- THE CELL 'sum', in the pinned program and in every row, IS THE sha256 OF THE DUMP (.gsa) THAT YtaadkpbpkeckdaaProg.lean LOADS. Nothing in Lean hashes anything: it is a label: what it is worth is what the hold of that sum in a sandbox is worth. -/
noncomputable def Try.pinned : Pinned := { name := "ytaadkpbpkeckdaa", sum := "8bbcb64b2a239199f5057faa5bd59808227155cfa1416d18f4ca9380e90283fa", checked := Try.checked }
namespace Rows
def none {H : Type} : Left H := { results := [], args := [] }

/-- 'laws.FnExactIsKept': WHATEVER THE INPUT: true; the input reads as it did. -/
def fnExactIsKeptSpec : ChangeSpec := { name := "fnExactIsKept", fn := fun _ => fun
  | [d] => { results := [.lit (.bool true)], args := [d] }
  | _ => none }
def fnExactIsKeptRow : OpenClaim := { program := "ytaadkpbpkeckdaa", sum := "8bbcb64b2a239199f5057faa5bd59808227155cfa1416d18f4ca9380e90283fa", func := "loop.example/g00662/laws.FnExactIsKept", spec := "fnExactIsKept", unfollowed := true, recurses := true, apart := false }
def FnExactIsKeptSaid : Prop := fnExactIsKeptRow.holds Try.pinned (OpenSpec.ofChange fnExactIsKeptSpec)

/-- ITS FALSE NEIGHBOUR: 'it returns false'. Refute it at one input. -/
def fnExactIsKeptWrong : ChangeSpec := { name := "fnExactIsKept", fn := fun _ => fun
  | [d] => { results := [.lit (.bool false)], args := [d] }
  | _ => none }
def FnExactIsKeptWrongFalsely : Prop := fnExactIsKeptRow.holds Try.pinned (OpenSpec.ofChange fnExactIsKeptWrong)

/-- 'laws.FnExactOnWay': WHATEVER THE INPUT: true; the input reads as it did. -/
def fnExactOnWaySpec : ChangeSpec := { name := "fnExactOnWay", fn := fun _ => fun
  | [d1, d2, d3] => { results := [.lit (.bool true)], args := [d1, d2, d3] }
  | _ => none }
def fnExactOnWayRow : OpenClaim := { program := "ytaadkpbpkeckdaa", sum := "8bbcb64b2a239199f5057faa5bd59808227155cfa1416d18f4ca9380e90283fa", func := "loop.example/g00662/laws.FnExactOnWay", spec := "fnExactOnWay", unfollowed := true, recurses := true, apart := false }
def FnExactOnWaySaid : Prop := fnExactOnWayRow.holds Try.pinned (OpenSpec.ofChange fnExactOnWaySpec)

/-- ITS FALSE NEIGHBOUR: 'it returns false'. Refute it at one input. -/
def fnExactOnWayWrong : ChangeSpec := { name := "fnExactOnWay", fn := fun _ => fun
  | [d1, d2, d3] => { results := [.lit (.bool false)], args := [d1, d2, d3] }
  | _ => none }
def FnExactOnWayWrongFalsely : Prop := fnExactOnWayRow.holds Try.pinned (OpenSpec.ofChange fnExactOnWayWrong)

/-- 'laws.FnExactGoodFlow': WHATEVER THE INPUT: true; the input reads as it did. -/
def fnExactGoodFlowSpec : ChangeSpec := { name := "fnExactGoodFlow", fn := fun _ => fun
  | [d] => { results := [.lit (.bool true)], args := [d] }
  | _ => none }
def fnExactGoodFlowRow : OpenClaim := { program := "ytaadkpbpkeckdaa", sum := "8bbcb64b2a239199f5057faa5bd59808227155cfa1416d18f4ca9380e90283fa", func := "loop.example/g00662/laws.FnExactGoodFlow", spec := "fnExactGoodFlow", unfollowed := true, recurses := true, apart := false }
def FnExactGoodFlowSaid : Prop := fnExactGoodFlowRow.holds Try.pinned (OpenSpec.ofChange fnExactGoodFlowSpec)

/-- ITS FALSE NEIGHBOUR: 'it returns false'. Refute it at one input. -/
def fnExactGoodFlowWrong : ChangeSpec := { name := "fnExactGoodFlow", fn := fun _ => fun
  | [d] => { results := [.lit (.bool false)], args := [d] }
  | _ => none }
def FnExactGoodFlowWrongFalsely : Prop := fnExactGoodFlowRow.holds Try.pinned (OpenSpec.ofChange fnExactGoodFlowWrong)

/-- 'laws.FnExactIsPoint': WHATEVER THE INPUT: true; the input reads as it did. -/
def fnExactIsPointSpec : ChangeSpec := { name := "fnExactIsPoint", fn := fun _ => fun
  | [d] => { results := [.lit (.bool true)], args := [d] }
  | _ => none }
def fnExactIsPointRow : OpenClaim := { program := "ytaadkpbpkeckdaa", sum := "8bbcb64b2a239199f5057faa5bd59808227155cfa1416d18f4ca9380e90283fa", func := "loop.example/g00662/laws.FnExactIsPoint", spec := "fnExactIsPoint", unfollowed := true, recurses := true, apart := false }
def FnExactIsPointSaid : Prop := fnExactIsPointRow.holds Try.pinned (OpenSpec.ofChange fnExactIsPointSpec)

/-- ITS FALSE NEIGHBOUR: 'it returns false'. Refute it at one input. -/
def fnExactIsPointWrong : ChangeSpec := { name := "fnExactIsPoint", fn := fun _ => fun
  | [d] => { results := [.lit (.bool false)], args := [d] }
  | _ => none }
def FnExactIsPointWrongFalsely : Prop := fnExactIsPointRow.holds Try.pinned (OpenSpec.ofChange fnExactIsPointWrong)

/-- 'laws.FnExactEndOf': WHATEVER THE INPUT: true; the input reads as it did. -/
def fnExactEndOfSpec : ChangeSpec := { name := "fnExactEndOf", fn := fun _ => fun
  | [d] => { results := [.lit (.bool true)], args := [d] }
  | _ => none }
def fnExactEndOfRow : OpenClaim := { program := "ytaadkpbpkeckdaa", sum := "8bbcb64b2a239199f5057faa5bd59808227155cfa1416d18f4ca9380e90283fa", func := "loop.example/g00662/laws.FnExactEndOf", spec := "fnExactEndOf", unfollowed := true, recurses := true, apart := false }
def FnExactEndOfSaid : Prop := fnExactEndOfRow.holds Try.pinned (OpenSpec.ofChange fnExactEndOfSpec)

/-- ITS FALSE NEIGHBOUR: 'it returns false'. Refute it at one input. -/
def fnExactEndOfWrong : ChangeSpec := { name := "fnExactEndOf", fn := fun _ => fun
  | [d] => { results := [.lit (.bool false)], args := [d] }
  | _ => none }
def FnExactEndOfWrongFalsely : Prop := fnExactEndOfRow.holds Try.pinned (OpenSpec.ofChange fnExactEndOfWrong)

/-- 'laws.FnExactStartOf': WHATEVER THE INPUT: true; the input reads as it did. -/
def fnExactStartOfSpec : ChangeSpec := { name := "fnExactStartOf", fn := fun _ => fun
  | [d] => { results := [.lit (.bool true)], args := [d] }
  | _ => none }
def fnExactStartOfRow : OpenClaim := { program := "ytaadkpbpkeckdaa", sum := "8bbcb64b2a239199f5057faa5bd59808227155cfa1416d18f4ca9380e90283fa", func := "loop.example/g00662/laws.FnExactStartOf", spec := "fnExactStartOf", unfollowed := true, recurses := true, apart := false }
def FnExactStartOfSaid : Prop := fnExactStartOfRow.holds Try.pinned (OpenSpec.ofChange fnExactStartOfSpec)

/-- ITS FALSE NEIGHBOUR: 'it returns false'. Refute it at one input. -/
def fnExactStartOfWrong : ChangeSpec := { name := "fnExactStartOf", fn := fun _ => fun
  | [d] => { results := [.lit (.bool false)], args := [d] }
  | _ => none }
def FnExactStartOfWrongFalsely : Prop := fnExactStartOfRow.holds Try.pinned (OpenSpec.ofChange fnExactStartOfWrong)

/-- 'laws.FnExactShortNet': WHATEVER THE INPUT: true; the input reads as it did. -/
def fnExactShortNetSpec : ChangeSpec := { name := "fnExactShortNet", fn := fun _ => fun
  | [d] => { results := [.lit (.bool true)], args := [d] }
  | _ => none }
def fnExactShortNetRow : OpenClaim := { program := "ytaadkpbpkeckdaa", sum := "8bbcb64b2a239199f5057faa5bd59808227155cfa1416d18f4ca9380e90283fa", func := "loop.example/g00662/laws.FnExactShortNet", spec := "fnExactShortNet", unfollowed := true, recurses := true, apart := false }
def FnExactShortNetSaid : Prop := fnExactShortNetRow.holds Try.pinned (OpenSpec.ofChange fnExactShortNetSpec)

/-- ITS FALSE NEIGHBOUR: 'it returns false'. Refute it at one input. -/
def fnExactShortNetWrong : ChangeSpec := { name := "fnExactShortNet", fn := fun _ => fun
  | [d] => { results := [.lit (.bool false)], args := [d] }
  | _ => none }
def FnExactShortNetWrongFalsely : Prop := fnExactShortNetRow.holds Try.pinned (OpenSpec.ofChange fnExactShortNetWrong)

/-- 'laws.FnExactDropTrans': WHATEVER THE INPUT: true; the input reads as it did. -/
def fnExactDropTransSpec : ChangeSpec := { name := "fnExactDropTrans", fn := fun _ => fun
  | [d] => { results := [.lit (.bool true)], args := [d] }
  | _ => none }
def fnExactDropTransRow : OpenClaim := { program := "ytaadkpbpkeckdaa", sum := "8bbcb64b2a239199f5057faa5bd59808227155cfa1416d18f4ca9380e90283fa", func := "loop.example/g00662/laws.FnExactDropTrans", spec := "fnExactDropTrans", unfollowed := true, recurses := true, apart := false }
def FnExactDropTransSaid : Prop := fnExactDropTransRow.holds Try.pinned (OpenSpec.ofChange fnExactDropTransSpec)

/-- ITS FALSE NEIGHBOUR: 'it returns false'. Refute it at one input. -/
def fnExactDropTransWrong : ChangeSpec := { name := "fnExactDropTrans", fn := fun _ => fun
  | [d] => { results := [.lit (.bool false)], args := [d] }
  | _ => none }
def FnExactDropTransWrongFalsely : Prop := fnExactDropTransRow.holds Try.pinned (OpenSpec.ofChange fnExactDropTransWrong)

/-- 'laws.FnExactChainFlows': WHATEVER THE INPUT: true; the input reads as it did. -/
def fnExactChainFlowsSpec : ChangeSpec := { name := "fnExactChainFlows", fn := fun _ => fun
  | [d1, d2] => { results := [.lit (.bool true)], args := [d1, d2] }
  | _ => none }
def fnExactChainFlowsRow : OpenClaim := { program := "ytaadkpbpkeckdaa", sum := "8bbcb64b2a239199f5057faa5bd59808227155cfa1416d18f4ca9380e90283fa", func := "loop.example/g00662/laws.FnExactChainFlows", spec := "fnExactChainFlows", unfollowed := true, recurses := true, apart := false }
def FnExactChainFlowsSaid : Prop := fnExactChainFlowsRow.holds Try.pinned (OpenSpec.ofChange fnExactChainFlowsSpec)

/-- ITS FALSE NEIGHBOUR: 'it returns false'. Refute it at one input. -/
def fnExactChainFlowsWrong : ChangeSpec := { name := "fnExactChainFlows", fn := fun _ => fun
  | [d1, d2] => { results := [.lit (.bool false)], args := [d1, d2] }
  | _ => none }
def FnExactChainFlowsWrongFalsely : Prop := fnExactChainFlowsRow.holds Try.pinned (OpenSpec.ofChange fnExactChainFlowsWrong)

/-- 'laws.FnExactIsSafe': WHATEVER THE INPUT: true; the input reads as it did. -/
def fnExactIsSafeSpec : ChangeSpec := { name := "fnExactIsSafe", fn := fun _ => fun
  | [d1, d2] => { results := [.lit (.bool true)], args := [d1, d2] }
  | _ => none }
def fnExactIsSafeRow : OpenClaim := { program := "ytaadkpbpkeckdaa", sum := "8bbcb64b2a239199f5057faa5bd59808227155cfa1416d18f4ca9380e90283fa", func := "loop.example/g00662/laws.FnExactIsSafe", spec := "fnExactIsSafe", unfollowed := true, recurses := true, apart := false }
def FnExactIsSafeSaid : Prop := fnExactIsSafeRow.holds Try.pinned (OpenSpec.ofChange fnExactIsSafeSpec)

/-- ITS FALSE NEIGHBOUR: 'it returns false'. Refute it at one input. -/
def fnExactIsSafeWrong : ChangeSpec := { name := "fnExactIsSafe", fn := fun _ => fun
  | [d1, d2] => { results := [.lit (.bool false)], args := [d1, d2] }
  | _ => none }
def FnExactIsSafeWrongFalsely : Prop := fnExactIsSafeRow.holds Try.pinned (OpenSpec.ofChange fnExactIsSafeWrong)

/- THE SECOND FORM. 'bulk': how many values and letters a reading holds, each counted each time it is reached (what is shared counts as often as it is met; a slice's spare places count too). A statement '..UptoSaid' is the law's where the arguments, and the package variables that the reading takes, are together of bulk at most 1048576: NARROWER than '..Said'. Prove '..Said' where nothing that the law and all that it calls make is longer than what came in: it says more and counts as full. Else prove '..UptoSaid'. A law counts once. -/
mutual
def uptoBulk {H : Type} : DataW H → Nat
  | .lit (.string bytes) => bytes.length + 1
  | .lit _ => 1
  | .nil => 1
  | .ptr d => uptoBulk d + 1
  | .slice elems spare => uptoBulkAll elems + uptoBulkAll spare + 1
  | .agg parts => uptoBulkAll parts + 1
  | .iface _ d => uptoBulk d + 1
  | .map entries => uptoBulkEntries entries + 1
  | .held _ => 1
def uptoBulkAll {H : Type} : List (DataW H) → Nat
  | [] => 0
  | d :: r => uptoBulk d + uptoBulkAll r
def uptoBulkEntries {H : Type} : List (Lit × DataW H) → Nat
  | [] => 0
  | x :: r => uptoBulkEntry x + uptoBulkEntries r
def uptoBulkEntry {H : Type} : Lit × DataW H → Nat
  | (.string bytes, d) => bytes.length + uptoBulk d + 1
  | (_, d) => uptoBulk d + 1
 end
def uptoSmall : (H : Type) → List (DataW H) → Bool := fun _ ds => decide (uptoBulkAll ds ≤ 1048576)
def OpenSpec.upto (s : _root_.Go.ChangeSpec) : _root_.Go.OpenSpec := { _root_.Go.OpenSpec.ofChange s with cond := some uptoSmall }

/-- 'laws.FnExactIsKept', WHERE WHAT IT READS IS OF BULK AT MOST 1048576: true; the input reads as it did. -/
def fnExactIsKeptUptoRow : OpenClaim := { program := "ytaadkpbpkeckdaa", sum := "8bbcb64b2a239199f5057faa5bd59808227155cfa1416d18f4ca9380e90283fa", func := "loop.example/g00662/laws.FnExactIsKept", spec := "fnExactIsKept", unfollowed := true, recurses := true, apart := false, narrowed := true }
def FnExactIsKeptUptoSaid : Prop := fnExactIsKeptUptoRow.holds Try.pinned (OpenSpec.upto fnExactIsKeptSpec)

/-- 'laws.FnExactOnWay', WHERE WHAT IT READS IS OF BULK AT MOST 1048576: true; the input reads as it did. -/
def fnExactOnWayUptoRow : OpenClaim := { program := "ytaadkpbpkeckdaa", sum := "8bbcb64b2a239199f5057faa5bd59808227155cfa1416d18f4ca9380e90283fa", func := "loop.example/g00662/laws.FnExactOnWay", spec := "fnExactOnWay", unfollowed := true, recurses := true, apart := false, narrowed := true }
def FnExactOnWayUptoSaid : Prop := fnExactOnWayUptoRow.holds Try.pinned (OpenSpec.upto fnExactOnWaySpec)

/-- 'laws.FnExactGoodFlow', WHERE WHAT IT READS IS OF BULK AT MOST 1048576: true; the input reads as it did. -/
def fnExactGoodFlowUptoRow : OpenClaim := { program := "ytaadkpbpkeckdaa", sum := "8bbcb64b2a239199f5057faa5bd59808227155cfa1416d18f4ca9380e90283fa", func := "loop.example/g00662/laws.FnExactGoodFlow", spec := "fnExactGoodFlow", unfollowed := true, recurses := true, apart := false, narrowed := true }
def FnExactGoodFlowUptoSaid : Prop := fnExactGoodFlowUptoRow.holds Try.pinned (OpenSpec.upto fnExactGoodFlowSpec)

/-- 'laws.FnExactIsPoint', WHERE WHAT IT READS IS OF BULK AT MOST 1048576: true; the input reads as it did. -/
def fnExactIsPointUptoRow : OpenClaim := { program := "ytaadkpbpkeckdaa", sum := "8bbcb64b2a239199f5057faa5bd59808227155cfa1416d18f4ca9380e90283fa", func := "loop.example/g00662/laws.FnExactIsPoint", spec := "fnExactIsPoint", unfollowed := true, recurses := true, apart := false, narrowed := true }
def FnExactIsPointUptoSaid : Prop := fnExactIsPointUptoRow.holds Try.pinned (OpenSpec.upto fnExactIsPointSpec)

/-- 'laws.FnExactEndOf', WHERE WHAT IT READS IS OF BULK AT MOST 1048576: true; the input reads as it did. -/
def fnExactEndOfUptoRow : OpenClaim := { program := "ytaadkpbpkeckdaa", sum := "8bbcb64b2a239199f5057faa5bd59808227155cfa1416d18f4ca9380e90283fa", func := "loop.example/g00662/laws.FnExactEndOf", spec := "fnExactEndOf", unfollowed := true, recurses := true, apart := false, narrowed := true }
def FnExactEndOfUptoSaid : Prop := fnExactEndOfUptoRow.holds Try.pinned (OpenSpec.upto fnExactEndOfSpec)

/-- 'laws.FnExactStartOf', WHERE WHAT IT READS IS OF BULK AT MOST 1048576: true; the input reads as it did. -/
def fnExactStartOfUptoRow : OpenClaim := { program := "ytaadkpbpkeckdaa", sum := "8bbcb64b2a239199f5057faa5bd59808227155cfa1416d18f4ca9380e90283fa", func := "loop.example/g00662/laws.FnExactStartOf", spec := "fnExactStartOf", unfollowed := true, recurses := true, apart := false, narrowed := true }
def FnExactStartOfUptoSaid : Prop := fnExactStartOfUptoRow.holds Try.pinned (OpenSpec.upto fnExactStartOfSpec)

/-- 'laws.FnExactShortNet', WHERE WHAT IT READS IS OF BULK AT MOST 1048576: true; the input reads as it did. -/
def fnExactShortNetUptoRow : OpenClaim := { program := "ytaadkpbpkeckdaa", sum := "8bbcb64b2a239199f5057faa5bd59808227155cfa1416d18f4ca9380e90283fa", func := "loop.example/g00662/laws.FnExactShortNet", spec := "fnExactShortNet", unfollowed := true, recurses := true, apart := false, narrowed := true }
def FnExactShortNetUptoSaid : Prop := fnExactShortNetUptoRow.holds Try.pinned (OpenSpec.upto fnExactShortNetSpec)

/-- 'laws.FnExactDropTrans', WHERE WHAT IT READS IS OF BULK AT MOST 1048576: true; the input reads as it did. -/
def fnExactDropTransUptoRow : OpenClaim := { program := "ytaadkpbpkeckdaa", sum := "8bbcb64b2a239199f5057faa5bd59808227155cfa1416d18f4ca9380e90283fa", func := "loop.example/g00662/laws.FnExactDropTrans", spec := "fnExactDropTrans", unfollowed := true, recurses := true, apart := false, narrowed := true }
def FnExactDropTransUptoSaid : Prop := fnExactDropTransUptoRow.holds Try.pinned (OpenSpec.upto fnExactDropTransSpec)

/-- 'laws.FnExactChainFlows', WHERE WHAT IT READS IS OF BULK AT MOST 1048576: true; the input reads as it did. -/
def fnExactChainFlowsUptoRow : OpenClaim := { program := "ytaadkpbpkeckdaa", sum := "8bbcb64b2a239199f5057faa5bd59808227155cfa1416d18f4ca9380e90283fa", func := "loop.example/g00662/laws.FnExactChainFlows", spec := "fnExactChainFlows", unfollowed := true, recurses := true, apart := false, narrowed := true }
def FnExactChainFlowsUptoSaid : Prop := fnExactChainFlowsUptoRow.holds Try.pinned (OpenSpec.upto fnExactChainFlowsSpec)

/-- 'laws.FnExactIsSafe', WHERE WHAT IT READS IS OF BULK AT MOST 1048576: true; the input reads as it did. -/
def fnExactIsSafeUptoRow : OpenClaim := { program := "ytaadkpbpkeckdaa", sum := "8bbcb64b2a239199f5057faa5bd59808227155cfa1416d18f4ca9380e90283fa", func := "loop.example/g00662/laws.FnExactIsSafe", spec := "fnExactIsSafe", unfollowed := true, recurses := true, apart := false, narrowed := true }
def FnExactIsSafeUptoSaid : Prop := fnExactIsSafeUptoRow.holds Try.pinned (OpenSpec.upto fnExactIsSafeSpec)

end Rows
end Go.Proofs.Ytaadkpbpkeckdaa
