/-
  No cell of these rows narrows 'for every input' (looked for: loops, veiled, ifaces, maps, wideKeys, modest, calm, conditions, laid).
  DERIVED. THE GIVEN ROWS OF THIS SEAT. 6 by the template 'for every input the law returns true; each argument reads behind the call as it read before'; 0 by the template 'total and deterministic' (their statements: YtjppligclcfbgaaTotals.lean).
  GIVEN WITH THE SEED: the statements are not yours to turn. If you find one false, say at which input.
  Laid BY PROGRAM, IN A SANDBOX (cutbox-rows.mjs): the forced cells as the released guide's own fill.sh prints them over the translation 69fbb655f830171f… (all of the seat's roots in one cut). By AI agents, Wed Nov 11 2026. No macro, syntax, notation, axiom, sorry.
-/
import Derived.Test.YtjppligclcfbgaaChecked
import GoSem.Claim
import GoSem.ClaimJoined
import GoSem.ClaimMapViews
import Derived.JoinedTies
import Derived.KernelRfl
namespace Go.Proofs.Ytjppligclcfbgaa
/- THE CELL 'sum', in the pinned program and in every row, IS THE sha256 OF THE DUMP (.gsa) THAT YtjppligclcfbgaaProg.lean LOADS. Nothing in Lean hashes anything: it is a label: what it is worth is what the hold of that sum in a sandbox is worth. -/
noncomputable def Try.pinned : Pinned := { name := "ytjppligclcfbgaa", sum := "69fbb655f830171f5b55e8c04a4346b43f6cc16749de259072076018a8a6bc67", checked := Try.checked }
namespace Rows
def none {H : Type} : Left H := { results := [], args := [] }

/-- 'laws.FnExactConstants': WHATEVER THE INPUT: true; the input reads as it did. -/
def fnExactConstantsSpec : ChangeSpec := { name := "fnExactConstants", fn := fun _ => fun
  | [] => { results := [.lit (.bool true)], args := [] }
  | _ => none }
def fnExactConstantsRow : OpenClaim := { program := "ytjppligclcfbgaa", sum := "69fbb655f830171f5b55e8c04a4346b43f6cc16749de259072076018a8a6bc67", func := "loop.example/g00662/laws.FnExactConstants", spec := "fnExactConstants", apart := false }
def FnExactConstantsSaid : Prop := fnExactConstantsRow.holds Try.pinned (OpenSpec.ofChange fnExactConstantsSpec)

/-- ITS FALSE NEIGHBOUR: 'it returns false'. Refute it at one input. -/
def fnExactConstantsWrong : ChangeSpec := { name := "fnExactConstants", fn := fun _ => fun
  | [] => { results := [.lit (.bool false)], args := [] }
  | _ => none }
def FnExactConstantsWrongFalsely : Prop := fnExactConstantsRow.holds Try.pinned (OpenSpec.ofChange fnExactConstantsWrong)

/-- 'laws.FnExactGoodMark': WHATEVER THE INPUT: true; the input reads as it did. -/
def fnExactGoodMarkSpec : ChangeSpec := { name := "fnExactGoodMark", fn := fun _ => fun
  | [d1, d2] => { results := [.lit (.bool true)], args := [d1, d2] }
  | _ => none }
def fnExactGoodMarkRow : OpenClaim := { program := "ytjppligclcfbgaa", sum := "69fbb655f830171f5b55e8c04a4346b43f6cc16749de259072076018a8a6bc67", func := "loop.example/g00662/laws.FnExactGoodMark", spec := "fnExactGoodMark", apart := false }
def FnExactGoodMarkSaid : Prop := fnExactGoodMarkRow.holds Try.pinned (OpenSpec.ofChange fnExactGoodMarkSpec)

/-- ITS FALSE NEIGHBOUR: 'it returns false'. Refute it at one input. -/
def fnExactGoodMarkWrong : ChangeSpec := { name := "fnExactGoodMark", fn := fun _ => fun
  | [d1, d2] => { results := [.lit (.bool false)], args := [d1, d2] }
  | _ => none }
def FnExactGoodMarkWrongFalsely : Prop := fnExactGoodMarkRow.holds Try.pinned (OpenSpec.ofChange fnExactGoodMarkWrong)

/-- 'laws.FnExactTotalOf': WHATEVER THE INPUT: true; the input reads as it did. -/
def fnExactTotalOfSpec : ChangeSpec := { name := "fnExactTotalOf", fn := fun _ => fun
  | [d1, d2] => { results := [.lit (.bool true)], args := [d1, d2] }
  | _ => none }
def fnExactTotalOfRow : OpenClaim := { program := "ytjppligclcfbgaa", sum := "69fbb655f830171f5b55e8c04a4346b43f6cc16749de259072076018a8a6bc67", func := "loop.example/g00662/laws.FnExactTotalOf", spec := "fnExactTotalOf", unfollowed := true, recurses := true, apart := false }
def FnExactTotalOfSaid : Prop := fnExactTotalOfRow.holds Try.pinned (OpenSpec.ofChange fnExactTotalOfSpec)

/-- ITS FALSE NEIGHBOUR: 'it returns false'. Refute it at one input. -/
def fnExactTotalOfWrong : ChangeSpec := { name := "fnExactTotalOf", fn := fun _ => fun
  | [d1, d2] => { results := [.lit (.bool false)], args := [d1, d2] }
  | _ => none }
def FnExactTotalOfWrongFalsely : Prop := fnExactTotalOfRow.holds Try.pinned (OpenSpec.ofChange fnExactTotalOfWrong)

/-- 'laws.FnExactCovers': WHATEVER THE INPUT: true; the input reads as it did. -/
def fnExactCoversSpec : ChangeSpec := { name := "fnExactCovers", fn := fun _ => fun
  | [d1, d2, d3] => { results := [.lit (.bool true)], args := [d1, d2, d3] }
  | _ => none }
def fnExactCoversRow : OpenClaim := { program := "ytjppligclcfbgaa", sum := "69fbb655f830171f5b55e8c04a4346b43f6cc16749de259072076018a8a6bc67", func := "loop.example/g00662/laws.FnExactCovers", spec := "fnExactCovers", unfollowed := true, recurses := true, apart := false }
def FnExactCoversSaid : Prop := fnExactCoversRow.holds Try.pinned (OpenSpec.ofChange fnExactCoversSpec)

/-- ITS FALSE NEIGHBOUR: 'it returns false'. Refute it at one input. -/
def fnExactCoversWrong : ChangeSpec := { name := "fnExactCovers", fn := fun _ => fun
  | [d1, d2, d3] => { results := [.lit (.bool false)], args := [d1, d2, d3] }
  | _ => none }
def FnExactCoversWrongFalsely : Prop := fnExactCoversRow.holds Try.pinned (OpenSpec.ofChange fnExactCoversWrong)

/-- 'laws.FnExactAddMarks': WHATEVER THE INPUT: true; the input reads as it did. -/
def fnExactAddMarksSpec : ChangeSpec := { name := "fnExactAddMarks", fn := fun _ => fun
  | [d1, d2, d3] => { results := [.lit (.bool true)], args := [d1, d2, d3] }
  | _ => none }
def fnExactAddMarksRow : OpenClaim := { program := "ytjppligclcfbgaa", sum := "69fbb655f830171f5b55e8c04a4346b43f6cc16749de259072076018a8a6bc67", func := "loop.example/g00662/laws.FnExactAddMarks", spec := "fnExactAddMarks", unfollowed := true, recurses := true, apart := false }
def FnExactAddMarksSaid : Prop := fnExactAddMarksRow.holds Try.pinned (OpenSpec.ofChange fnExactAddMarksSpec)

/-- ITS FALSE NEIGHBOUR: 'it returns false'. Refute it at one input. -/
def fnExactAddMarksWrong : ChangeSpec := { name := "fnExactAddMarks", fn := fun _ => fun
  | [d1, d2, d3] => { results := [.lit (.bool false)], args := [d1, d2, d3] }
  | _ => none }
def FnExactAddMarksWrongFalsely : Prop := fnExactAddMarksRow.holds Try.pinned (OpenSpec.ofChange fnExactAddMarksWrong)

/-- 'laws.FnExactTakeMarks': WHATEVER THE INPUT: true; the input reads as it did. -/
def fnExactTakeMarksSpec : ChangeSpec := { name := "fnExactTakeMarks", fn := fun _ => fun
  | [d1, d2, d3] => { results := [.lit (.bool true)], args := [d1, d2, d3] }
  | _ => none }
def fnExactTakeMarksRow : OpenClaim := { program := "ytjppligclcfbgaa", sum := "69fbb655f830171f5b55e8c04a4346b43f6cc16749de259072076018a8a6bc67", func := "loop.example/g00662/laws.FnExactTakeMarks", spec := "fnExactTakeMarks", unfollowed := true, recurses := true, apart := false }
def FnExactTakeMarksSaid : Prop := fnExactTakeMarksRow.holds Try.pinned (OpenSpec.ofChange fnExactTakeMarksSpec)

/-- ITS FALSE NEIGHBOUR: 'it returns false'. Refute it at one input. -/
def fnExactTakeMarksWrong : ChangeSpec := { name := "fnExactTakeMarks", fn := fun _ => fun
  | [d1, d2, d3] => { results := [.lit (.bool false)], args := [d1, d2, d3] }
  | _ => none }
def FnExactTakeMarksWrongFalsely : Prop := fnExactTakeMarksRow.holds Try.pinned (OpenSpec.ofChange fnExactTakeMarksWrong)

/- THE SECOND FORM. 'bulk': how many values and letters a reading holds, each counted each time it is reached (what is shared counts as often as it is met; a slice's spare places count too). A statement '..UptoSaid' is the law's where the arguments, and the package variables that the reading takes, are together of bulk at most 1048576: NARROWER than '..Said'. Prove '..Said' where nothing that the law and all that it calls make is longer than what came in: it says more and counts as full. Else prove '..UptoSaid'. A law counts once. -/
mutual
def uptoBulk {H : Type} : DataW H → Nat
  | .lit (.string bytes) => bytes.length + 1
  | .lit _ => 1
  | .nil => 1
  | .ptr d => uptoBulk d + 1
  | .slice elems spare => uptoBulkAll elems + uptoBulkAll spare + 1
  | .agg parts => uptoBulkAll parts + 1
  | .iface _ d => uptoBulk d + 1
  | .map entries => uptoBulkEntries entries + 1
  | .held _ => 1
def uptoBulkAll {H : Type} : List (DataW H) → Nat
  | [] => 0
  | d :: r => uptoBulk d + uptoBulkAll r
def uptoBulkEntries {H : Type} : List (Lit × DataW H) → Nat
  | [] => 0
  | x :: r => uptoBulkEntry x + uptoBulkEntries r
def uptoBulkEntry {H : Type} : Lit × DataW H → Nat
  | (.string bytes, d) => bytes.length + uptoBulk d + 1
  | (_, d) => uptoBulk d + 1
 end
def uptoSmall : (H : Type) → List (DataW H) → Bool := fun _ ds => decide (uptoBulkAll ds ≤ 1048576)
def OpenSpec.upto (s : _root_.Go.ChangeSpec) : _root_.Go.OpenSpec := { _root_.Go.OpenSpec.ofChange s with cond := some uptoSmall }

/-- 'laws.FnExactConstants', WHERE WHAT IT READS IS OF BULK AT MOST 1048576: true; the input reads as it did. -/
def fnExactConstantsUptoRow : OpenClaim := { program := "ytjppligclcfbgaa", sum := "69fbb655f830171f5b55e8c04a4346b43f6cc16749de259072076018a8a6bc67", func := "loop.example/g00662/laws.FnExactConstants", spec := "fnExactConstants", apart := false, narrowed := true }
def FnExactConstantsUptoSaid : Prop := fnExactConstantsUptoRow.holds Try.pinned (OpenSpec.upto fnExactConstantsSpec)

/-- 'laws.FnExactGoodMark', WHERE WHAT IT READS IS OF BULK AT MOST 1048576: true; the input reads as it did. -/
def fnExactGoodMarkUptoRow : OpenClaim := { program := "ytjppligclcfbgaa", sum := "69fbb655f830171f5b55e8c04a4346b43f6cc16749de259072076018a8a6bc67", func := "loop.example/g00662/laws.FnExactGoodMark", spec := "fnExactGoodMark", apart := false, narrowed := true }
def FnExactGoodMarkUptoSaid : Prop := fnExactGoodMarkUptoRow.holds Try.pinned (OpenSpec.upto fnExactGoodMarkSpec)

/-- 'laws.FnExactTotalOf', WHERE WHAT IT READS IS OF BULK AT MOST 1048576: true; the input reads as it did. -/
def fnExactTotalOfUptoRow : OpenClaim := { program := "ytjppligclcfbgaa", sum := "69fbb655f830171f5b55e8c04a4346b43f6cc16749de259072076018a8a6bc67", func := "loop.example/g00662/laws.FnExactTotalOf", spec := "fnExactTotalOf", unfollowed := true, recurses := true, apart := false, narrowed := true }
def FnExactTotalOfUptoSaid : Prop := fnExactTotalOfUptoRow.holds Try.pinned (OpenSpec.upto fnExactTotalOfSpec)

/-- 'laws.FnExactCovers', WHERE WHAT IT READS IS OF BULK AT MOST 1048576: true; the input reads as it did. -/
def fnExactCoversUptoRow : OpenClaim := { program := "ytjppligclcfbgaa", sum := "69fbb655f830171f5b55e8c04a4346b43f6cc16749de259072076018a8a6bc67", func := "loop.example/g00662/laws.FnExactCovers", spec := "fnExactCovers", unfollowed := true, recurses := true, apart := false, narrowed := true }
def FnExactCoversUptoSaid : Prop := fnExactCoversUptoRow.holds Try.pinned (OpenSpec.upto fnExactCoversSpec)

/-- 'laws.FnExactAddMarks', WHERE WHAT IT READS IS OF BULK AT MOST 1048576: true; the input reads as it did. -/
def fnExactAddMarksUptoRow : OpenClaim := { program := "ytjppligclcfbgaa", sum := "69fbb655f830171f5b55e8c04a4346b43f6cc16749de259072076018a8a6bc67", func := "loop.example/g00662/laws.FnExactAddMarks", spec := "fnExactAddMarks", unfollowed := true, recurses := true, apart := false, narrowed := true }
def FnExactAddMarksUptoSaid : Prop := fnExactAddMarksUptoRow.holds Try.pinned (OpenSpec.upto fnExactAddMarksSpec)

/-- 'laws.FnExactTakeMarks', WHERE WHAT IT READS IS OF BULK AT MOST 1048576: true; the input reads as it did. -/
def fnExactTakeMarksUptoRow : OpenClaim := { program := "ytjppligclcfbgaa", sum := "69fbb655f830171f5b55e8c04a4346b43f6cc16749de259072076018a8a6bc67", func := "loop.example/g00662/laws.FnExactTakeMarks", spec := "fnExactTakeMarks", unfollowed := true, recurses := true, apart := false, narrowed := true }
def FnExactTakeMarksUptoSaid : Prop := fnExactTakeMarksUptoRow.holds Try.pinned (OpenSpec.upto fnExactTakeMarksSpec)

end Rows
end Go.Proofs.Ytjppligclcfbgaa
