/-
  No cell of these rows narrows 'for every input' (looked for: loops, veiled, ifaces, maps, wideKeys, modest, calm, conditions, laid).
  DERIVED. THE GIVEN ROWS OF THIS SEAT. 5 by the template 'for every input the law returns true; each argument reads behind the call as it read before'; 0 by the template 'total and deterministic' (their statements: YtbkjgnfnjgebiaaTotals.lean).
  GIVEN WITH THE SEED: the statements are not yours to turn. If you find one false, say at which input.
  Laid BY PROGRAM, IN A SANDBOX (cutbox-rows.mjs): the forced cells as the released guide's own fill.sh prints them over the translation bea630654235b1e5… (all of the seat's roots in one cut). By AI agents, Wed Nov 11 2026. No macro, syntax, notation, axiom, sorry.
-/
import Derived.Test.YtbkjgnfnjgebiaaChecked
import GoSem.Claim
import GoSem.ClaimJoined
import GoSem.ClaimMapViews
import Derived.JoinedTies
import Derived.KernelRfl
namespace Go.Proofs.Ytbkjgnfnjgebiaa
/- THE CELL 'sum', in the pinned program and in every row, IS THE sha256 OF THE DUMP (.gsa) THAT YtbkjgnfnjgebiaaProg.lean LOADS. Nothing in Lean hashes anything: it is a label: what it is worth is what the hold of that sum in a sandbox is worth. -/
noncomputable def Try.pinned : Pinned := { name := "ytbkjgnfnjgebiaa", sum := "bea630654235b1e53cb3966324e3c7913c92ad9309bad5d142c365e06138c34e", checked := Try.checked }
namespace Rows
def none {H : Type} : Left H := { results := [], args := [] }

/-- 'laws.FnExactTurnNet': WHATEVER THE INPUT: true; the input reads as it did. -/
def fnExactTurnNetSpec : ChangeSpec := { name := "fnExactTurnNet", fn := fun _ => fun
  | [d] => { results := [.lit (.bool true)], args := [d] }
  | _ => none }
def fnExactTurnNetRow : OpenClaim := { program := "ytbkjgnfnjgebiaa", sum := "bea630654235b1e53cb3966324e3c7913c92ad9309bad5d142c365e06138c34e", func := "loop.example/g00662/laws.FnExactTurnNet", spec := "fnExactTurnNet", unfollowed := true, recurses := true, apart := false }
def FnExactTurnNetSaid : Prop := fnExactTurnNetRow.holds Try.pinned (OpenSpec.ofChange fnExactTurnNetSpec)

/-- ITS FALSE NEIGHBOUR: 'it returns false'. Refute it at one input. -/
def fnExactTurnNetWrong : ChangeSpec := { name := "fnExactTurnNet", fn := fun _ => fun
  | [d] => { results := [.lit (.bool false)], args := [d] }
  | _ => none }
def FnExactTurnNetWrongFalsely : Prop := fnExactTurnNetRow.holds Try.pinned (OpenSpec.ofChange fnExactTurnNetWrong)

/-- 'laws.FnExactShortNet': WHATEVER THE INPUT: true; the input reads as it did. -/
def fnExactShortNetSpec : ChangeSpec := { name := "fnExactShortNet", fn := fun _ => fun
  | [d] => { results := [.lit (.bool true)], args := [d] }
  | _ => none }
def fnExactShortNetRow : OpenClaim := { program := "ytbkjgnfnjgebiaa", sum := "bea630654235b1e53cb3966324e3c7913c92ad9309bad5d142c365e06138c34e", func := "loop.example/g00662/laws.FnExactShortNet", spec := "fnExactShortNet", unfollowed := true, recurses := true, apart := false }
def FnExactShortNetSaid : Prop := fnExactShortNetRow.holds Try.pinned (OpenSpec.ofChange fnExactShortNetSpec)

/-- ITS FALSE NEIGHBOUR: 'it returns false'. Refute it at one input. -/
def fnExactShortNetWrong : ChangeSpec := { name := "fnExactShortNet", fn := fun _ => fun
  | [d] => { results := [.lit (.bool false)], args := [d] }
  | _ => none }
def FnExactShortNetWrongFalsely : Prop := fnExactShortNetRow.holds Try.pinned (OpenSpec.ofChange fnExactShortNetWrong)

/-- 'laws.FnExactDropTrans': WHATEVER THE INPUT: true; the input reads as it did. -/
def fnExactDropTransSpec : ChangeSpec := { name := "fnExactDropTrans", fn := fun _ => fun
  | [d] => { results := [.lit (.bool true)], args := [d] }
  | _ => none }
def fnExactDropTransRow : OpenClaim := { program := "ytbkjgnfnjgebiaa", sum := "bea630654235b1e53cb3966324e3c7913c92ad9309bad5d142c365e06138c34e", func := "loop.example/g00662/laws.FnExactDropTrans", spec := "fnExactDropTrans", unfollowed := true, recurses := true, apart := false }
def FnExactDropTransSaid : Prop := fnExactDropTransRow.holds Try.pinned (OpenSpec.ofChange fnExactDropTransSpec)

/-- ITS FALSE NEIGHBOUR: 'it returns false'. Refute it at one input. -/
def fnExactDropTransWrong : ChangeSpec := { name := "fnExactDropTrans", fn := fun _ => fun
  | [d] => { results := [.lit (.bool false)], args := [d] }
  | _ => none }
def FnExactDropTransWrongFalsely : Prop := fnExactDropTransRow.holds Try.pinned (OpenSpec.ofChange fnExactDropTransWrong)

/-- 'laws.FnExactChainFlows': WHATEVER THE INPUT: true; the input reads as it did. -/
def fnExactChainFlowsSpec : ChangeSpec := { name := "fnExactChainFlows", fn := fun _ => fun
  | [d1, d2] => { results := [.lit (.bool true)], args := [d1, d2] }
  | _ => none }
def fnExactChainFlowsRow : OpenClaim := { program := "ytbkjgnfnjgebiaa", sum := "bea630654235b1e53cb3966324e3c7913c92ad9309bad5d142c365e06138c34e", func := "loop.example/g00662/laws.FnExactChainFlows", spec := "fnExactChainFlows", unfollowed := true, recurses := true, apart := false }
def FnExactChainFlowsSaid : Prop := fnExactChainFlowsRow.holds Try.pinned (OpenSpec.ofChange fnExactChainFlowsSpec)

/-- ITS FALSE NEIGHBOUR: 'it returns false'. Refute it at one input. -/
def fnExactChainFlowsWrong : ChangeSpec := { name := "fnExactChainFlows", fn := fun _ => fun
  | [d1, d2] => { results := [.lit (.bool false)], args := [d1, d2] }
  | _ => none }
def FnExactChainFlowsWrongFalsely : Prop := fnExactChainFlowsRow.holds Try.pinned (OpenSpec.ofChange fnExactChainFlowsWrong)

/-- 'laws.FnExactCheckCert': WHATEVER THE INPUT: true; the input reads as it did. -/
def fnExactCheckCertSpec : ChangeSpec := { name := "fnExactCheckCert", fn := fun _ => fun
  | [d1, d2] => { results := [.lit (.bool true)], args := [d1, d2] }
  | _ => none }
def fnExactCheckCertRow : OpenClaim := { program := "ytbkjgnfnjgebiaa", sum := "bea630654235b1e53cb3966324e3c7913c92ad9309bad5d142c365e06138c34e", func := "loop.example/g00662/laws.FnExactCheckCert", spec := "fnExactCheckCert", unfollowed := true, recurses := true, apart := false }
def FnExactCheckCertSaid : Prop := fnExactCheckCertRow.holds Try.pinned (OpenSpec.ofChange fnExactCheckCertSpec)

/-- ITS FALSE NEIGHBOUR: 'it returns false'. Refute it at one input. -/
def fnExactCheckCertWrong : ChangeSpec := { name := "fnExactCheckCert", fn := fun _ => fun
  | [d1, d2] => { results := [.lit (.bool false)], args := [d1, d2] }
  | _ => none }
def FnExactCheckCertWrongFalsely : Prop := fnExactCheckCertRow.holds Try.pinned (OpenSpec.ofChange fnExactCheckCertWrong)

/- THE SECOND FORM. 'bulk': how many values and letters a reading holds, each counted each time it is reached (what is shared counts as often as it is met; a slice's spare places count too). A statement '..UptoSaid' is the law's where the arguments, and the package variables that the reading takes, are together of bulk at most 1048576: NARROWER than '..Said'. Prove '..Said' where nothing that the law and all that it calls make is longer than what came in: it says more and counts as full. Else prove '..UptoSaid'. A law counts once. -/
mutual
def uptoBulk {H : Type} : DataW H → Nat
  | .lit (.string bytes) => bytes.length + 1
  | .lit _ => 1
  | .nil => 1
  | .ptr d => uptoBulk d + 1
  | .slice elems spare => uptoBulkAll elems + uptoBulkAll spare + 1
  | .agg parts => uptoBulkAll parts + 1
  | .iface _ d => uptoBulk d + 1
  | .map entries => uptoBulkEntries entries + 1
  | .held _ => 1
def uptoBulkAll {H : Type} : List (DataW H) → Nat
  | [] => 0
  | d :: r => uptoBulk d + uptoBulkAll r
def uptoBulkEntries {H : Type} : List (Lit × DataW H) → Nat
  | [] => 0
  | x :: r => uptoBulkEntry x + uptoBulkEntries r
def uptoBulkEntry {H : Type} : Lit × DataW H → Nat
  | (.string bytes, d) => bytes.length + uptoBulk d + 1
  | (_, d) => uptoBulk d + 1
 end
def uptoSmall : (H : Type) → List (DataW H) → Bool := fun _ ds => decide (uptoBulkAll ds ≤ 1048576)
def OpenSpec.upto (s : _root_.Go.ChangeSpec) : _root_.Go.OpenSpec := { _root_.Go.OpenSpec.ofChange s with cond := some uptoSmall }

/-- 'laws.FnExactTurnNet', WHERE WHAT IT READS IS OF BULK AT MOST 1048576: true; the input reads as it did. -/
def fnExactTurnNetUptoRow : OpenClaim := { program := "ytbkjgnfnjgebiaa", sum := "bea630654235b1e53cb3966324e3c7913c92ad9309bad5d142c365e06138c34e", func := "loop.example/g00662/laws.FnExactTurnNet", spec := "fnExactTurnNet", unfollowed := true, recurses := true, apart := false, narrowed := true }
def FnExactTurnNetUptoSaid : Prop := fnExactTurnNetUptoRow.holds Try.pinned (OpenSpec.upto fnExactTurnNetSpec)

/-- 'laws.FnExactShortNet', WHERE WHAT IT READS IS OF BULK AT MOST 1048576: true; the input reads as it did. -/
def fnExactShortNetUptoRow : OpenClaim := { program := "ytbkjgnfnjgebiaa", sum := "bea630654235b1e53cb3966324e3c7913c92ad9309bad5d142c365e06138c34e", func := "loop.example/g00662/laws.FnExactShortNet", spec := "fnExactShortNet", unfollowed := true, recurses := true, apart := false, narrowed := true }
def FnExactShortNetUptoSaid : Prop := fnExactShortNetUptoRow.holds Try.pinned (OpenSpec.upto fnExactShortNetSpec)

/-- 'laws.FnExactDropTrans', WHERE WHAT IT READS IS OF BULK AT MOST 1048576: true; the input reads as it did. -/
def fnExactDropTransUptoRow : OpenClaim := { program := "ytbkjgnfnjgebiaa", sum := "bea630654235b1e53cb3966324e3c7913c92ad9309bad5d142c365e06138c34e", func := "loop.example/g00662/laws.FnExactDropTrans", spec := "fnExactDropTrans", unfollowed := true, recurses := true, apart := false, narrowed := true }
def FnExactDropTransUptoSaid : Prop := fnExactDropTransUptoRow.holds Try.pinned (OpenSpec.upto fnExactDropTransSpec)

/-- 'laws.FnExactChainFlows', WHERE WHAT IT READS IS OF BULK AT MOST 1048576: true; the input reads as it did. -/
def fnExactChainFlowsUptoRow : OpenClaim := { program := "ytbkjgnfnjgebiaa", sum := "bea630654235b1e53cb3966324e3c7913c92ad9309bad5d142c365e06138c34e", func := "loop.example/g00662/laws.FnExactChainFlows", spec := "fnExactChainFlows", unfollowed := true, recurses := true, apart := false, narrowed := true }
def FnExactChainFlowsUptoSaid : Prop := fnExactChainFlowsUptoRow.holds Try.pinned (OpenSpec.upto fnExactChainFlowsSpec)

/-- 'laws.FnExactCheckCert', WHERE WHAT IT READS IS OF BULK AT MOST 1048576: true; the input reads as it did. -/
def fnExactCheckCertUptoRow : OpenClaim := { program := "ytbkjgnfnjgebiaa", sum := "bea630654235b1e53cb3966324e3c7913c92ad9309bad5d142c365e06138c34e", func := "loop.example/g00662/laws.FnExactCheckCert", spec := "fnExactCheckCert", unfollowed := true, recurses := true, apart := false, narrowed := true }
def FnExactCheckCertUptoSaid : Prop := fnExactCheckCertUptoRow.holds Try.pinned (OpenSpec.upto fnExactCheckCertSpec)

end Rows
end Go.Proofs.Ytbkjgnfnjgebiaa
