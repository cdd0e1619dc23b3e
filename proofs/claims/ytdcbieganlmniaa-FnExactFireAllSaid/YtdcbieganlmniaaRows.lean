/-
  No cell of these rows narrows 'for every input' (looked for: loops, veiled, ifaces, maps, wideKeys, modest, calm, conditions, laid).
  DERIVED. THE GIVEN ROWS OF THIS SEAT. 11 by the template 'for every input the law returns true; each argument reads behind the call as it read before'; 0 by the template 'total and deterministic' (their statements: YtdcbieganlmniaaTotals.lean).
  GIVEN WITH THE SEED: the statements are not yours to turn. If you find one false, say at which input.
  Laid BY PROGRAM, IN A SANDBOX (cutbox-rows.mjs): the forced cells as the released guide's own fill.sh prints them over the translation fcc807b79b57564c… (all of the seat's roots in one cut). By AI agents, Wed Nov 11 2026. No macro, syntax, notation, axiom, sorry.
-/
import Derived.Test.YtdcbieganlmniaaChecked
import GoSem.Claim
import GoSem.ClaimJoined
import GoSem.ClaimMapViews
import Derived.JoinedTies
import Derived.KernelRfl
namespace Go.Proofs.Ytdcbieganlmniaa
/- THE CELL 'sum', in the pinned program and in every row, IS THE sha256 OF THE DUMP (.gsa) THAT YtdcbieganlmniaaProg.lean LOADS. Nothing in Lean hashes anything: it is a label: what it is worth is what the hold of that sum in a sandbox is worth. -/
noncomputable def Try.pinned : Pinned := { name := "ytdcbieganlmniaa", sum := "fcc807b79b57564cf59b517a6e5348f9505ae6ee6e99e4aa015f4961a7f22f9f", checked := Try.checked }
namespace Rows
def none {H : Type} : Left H := { results := [], args := [] }

/-- 'laws.FnExactGoodNet': WHATEVER THE INPUT: true; the input reads as it did. -/
def fnExactGoodNetSpec : ChangeSpec := { name := "fnExactGoodNet", fn := fun _ => fun
  | [d] => { results := [.lit (.bool true)], args := [d] }
  | _ => none }
def fnExactGoodNetRow : OpenClaim := { program := "ytdcbieganlmniaa", sum := "fcc807b79b57564cf59b517a6e5348f9505ae6ee6e99e4aa015f4961a7f22f9f", func := "loop.example/g00662/laws.FnExactGoodNet", spec := "fnExactGoodNet", unfollowed := true, recurses := true, apart := false }
def FnExactGoodNetSaid : Prop := fnExactGoodNetRow.holds Try.pinned (OpenSpec.ofChange fnExactGoodNetSpec)

/-- ITS FALSE NEIGHBOUR: 'it returns false'. Refute it at one input. -/
def fnExactGoodNetWrong : ChangeSpec := { name := "fnExactGoodNet", fn := fun _ => fun
  | [d] => { results := [.lit (.bool false)], args := [d] }
  | _ => none }
def FnExactGoodNetWrongFalsely : Prop := fnExactGoodNetRow.holds Try.pinned (OpenSpec.ofChange fnExactGoodNetWrong)

/-- 'laws.FnExactHasResets': WHATEVER THE INPUT: true; the input reads as it did. -/
def fnExactHasResetsSpec : ChangeSpec := { name := "fnExactHasResets", fn := fun _ => fun
  | [d] => { results := [.lit (.bool true)], args := [d] }
  | _ => none }
def fnExactHasResetsRow : OpenClaim := { program := "ytdcbieganlmniaa", sum := "fcc807b79b57564cf59b517a6e5348f9505ae6ee6e99e4aa015f4961a7f22f9f", func := "loop.example/g00662/laws.FnExactHasResets", spec := "fnExactHasResets", unfollowed := true, recurses := true, apart := false }
def FnExactHasResetsSaid : Prop := fnExactHasResetsRow.holds Try.pinned (OpenSpec.ofChange fnExactHasResetsSpec)

/-- ITS FALSE NEIGHBOUR: 'it returns false'. Refute it at one input. -/
def fnExactHasResetsWrong : ChangeSpec := { name := "fnExactHasResets", fn := fun _ => fun
  | [d] => { results := [.lit (.bool false)], args := [d] }
  | _ => none }
def FnExactHasResetsWrongFalsely : Prop := fnExactHasResetsRow.holds Try.pinned (OpenSpec.ofChange fnExactHasResetsWrong)

/-- 'laws.FnExactIsFreeChoice': WHATEVER THE INPUT: true; the input reads as it did. -/
def fnExactIsFreeChoiceSpec : ChangeSpec := { name := "fnExactIsFreeChoice", fn := fun _ => fun
  | [d] => { results := [.lit (.bool true)], args := [d] }
  | _ => none }
def fnExactIsFreeChoiceRow : OpenClaim := { program := "ytdcbieganlmniaa", sum := "fcc807b79b57564cf59b517a6e5348f9505ae6ee6e99e4aa015f4961a7f22f9f", func := "loop.example/g00662/laws.FnExactIsFreeChoice", spec := "fnExactIsFreeChoice", unfollowed := true, recurses := true, apart := false }
def FnExactIsFreeChoiceSaid : Prop := fnExactIsFreeChoiceRow.holds Try.pinned (OpenSpec.ofChange fnExactIsFreeChoiceSpec)

/-- ITS FALSE NEIGHBOUR: 'it returns false'. Refute it at one input. -/
def fnExactIsFreeChoiceWrong : ChangeSpec := { name := "fnExactIsFreeChoice", fn := fun _ => fun
  | [d] => { results := [.lit (.bool false)], args := [d] }
  | _ => none }
def FnExactIsFreeChoiceWrongFalsely : Prop := fnExactIsFreeChoiceRow.holds Try.pinned (OpenSpec.ofChange fnExactIsFreeChoiceWrong)

/-- 'laws.FnExactGiversOf': WHATEVER THE INPUT: true; the input reads as it did. -/
def fnExactGiversOfSpec : ChangeSpec := { name := "fnExactGiversOf", fn := fun _ => fun
  | [d1, d2] => { results := [.lit (.bool true)], args := [d1, d2] }
  | _ => none }
def fnExactGiversOfRow : OpenClaim := { program := "ytdcbieganlmniaa", sum := "fcc807b79b57564cf59b517a6e5348f9505ae6ee6e99e4aa015f4961a7f22f9f", func := "loop.example/g00662/laws.FnExactGiversOf", spec := "fnExactGiversOf", unfollowed := true, recurses := true, apart := false }
def FnExactGiversOfSaid : Prop := fnExactGiversOfRow.holds Try.pinned (OpenSpec.ofChange fnExactGiversOfSpec)

/-- ITS FALSE NEIGHBOUR: 'it returns false'. Refute it at one input. -/
def fnExactGiversOfWrong : ChangeSpec := { name := "fnExactGiversOf", fn := fun _ => fun
  | [d1, d2] => { results := [.lit (.bool false)], args := [d1, d2] }
  | _ => none }
def FnExactGiversOfWrongFalsely : Prop := fnExactGiversOfRow.holds Try.pinned (OpenSpec.ofChange fnExactGiversOfWrong)

/-- 'laws.FnExactTakersOf': WHATEVER THE INPUT: true; the input reads as it did. -/
def fnExactTakersOfSpec : ChangeSpec := { name := "fnExactTakersOf", fn := fun _ => fun
  | [d1, d2] => { results := [.lit (.bool true)], args := [d1, d2] }
  | _ => none }
def fnExactTakersOfRow : OpenClaim := { program := "ytdcbieganlmniaa", sum := "fcc807b79b57564cf59b517a6e5348f9505ae6ee6e99e4aa015f4961a7f22f9f", func := "loop.example/g00662/laws.FnExactTakersOf", spec := "fnExactTakersOf", unfollowed := true, recurses := true, apart := false }
def FnExactTakersOfSaid : Prop := fnExactTakersOfRow.holds Try.pinned (OpenSpec.ofChange fnExactTakersOfSpec)

/-- ITS FALSE NEIGHBOUR: 'it returns false'. Refute it at one input. -/
def fnExactTakersOfWrong : ChangeSpec := { name := "fnExactTakersOf", fn := fun _ => fun
  | [d1, d2] => { results := [.lit (.bool false)], args := [d1, d2] }
  | _ => none }
def FnExactTakersOfWrongFalsely : Prop := fnExactTakersOfRow.holds Try.pinned (OpenSpec.ofChange fnExactTakersOfWrong)

/-- 'laws.FnExactEnabled': WHATEVER THE INPUT: true; the input reads as it did. -/
def fnExactEnabledSpec : ChangeSpec := { name := "fnExactEnabled", fn := fun _ => fun
  | [d1, d2] => { results := [.lit (.bool true)], args := [d1, d2] }
  | _ => none }
def fnExactEnabledRow : OpenClaim := { program := "ytdcbieganlmniaa", sum := "fcc807b79b57564cf59b517a6e5348f9505ae6ee6e99e4aa015f4961a7f22f9f", func := "loop.example/g00662/laws.FnExactEnabled", spec := "fnExactEnabled", unfollowed := true, recurses := true, apart := false }
def FnExactEnabledSaid : Prop := fnExactEnabledRow.holds Try.pinned (OpenSpec.ofChange fnExactEnabledSpec)

/-- ITS FALSE NEIGHBOUR: 'it returns false'. Refute it at one input. -/
def fnExactEnabledWrong : ChangeSpec := { name := "fnExactEnabled", fn := fun _ => fun
  | [d1, d2] => { results := [.lit (.bool false)], args := [d1, d2] }
  | _ => none }
def FnExactEnabledWrongFalsely : Prop := fnExactEnabledRow.holds Try.pinned (OpenSpec.ofChange fnExactEnabledWrong)

/-- 'laws.FnExactFire': WHATEVER THE INPUT: true; the input reads as it did. -/
def fnExactFireSpec : ChangeSpec := { name := "fnExactFire", fn := fun _ => fun
  | [d1, d2, d3] => { results := [.lit (.bool true)], args := [d1, d2, d3] }
  | _ => none }
def fnExactFireRow : OpenClaim := { program := "ytdcbieganlmniaa", sum := "fcc807b79b57564cf59b517a6e5348f9505ae6ee6e99e4aa015f4961a7f22f9f", func := "loop.example/g00662/laws.FnExactFire", spec := "fnExactFire", unfollowed := true, recurses := true, apart := false }
def FnExactFireSaid : Prop := fnExactFireRow.holds Try.pinned (OpenSpec.ofChange fnExactFireSpec)

/-- ITS FALSE NEIGHBOUR: 'it returns false'. Refute it at one input. -/
def fnExactFireWrong : ChangeSpec := { name := "fnExactFire", fn := fun _ => fun
  | [d1, d2, d3] => { results := [.lit (.bool false)], args := [d1, d2, d3] }
  | _ => none }
def FnExactFireWrongFalsely : Prop := fnExactFireRow.holds Try.pinned (OpenSpec.ofChange fnExactFireWrong)

/-- 'laws.FnExactFireAll': WHATEVER THE INPUT: true; the input reads as it did. -/
def fnExactFireAllSpec : ChangeSpec := { name := "fnExactFireAll", fn := fun _ => fun
  | [d1, d2, d3] => { results := [.lit (.bool true)], args := [d1, d2, d3] }
  | _ => none }
def fnExactFireAllRow : OpenClaim := { program := "ytdcbieganlmniaa", sum := "fcc807b79b57564cf59b517a6e5348f9505ae6ee6e99e4aa015f4961a7f22f9f", func := "loop.example/g00662/laws.FnExactFireAll", spec := "fnExactFireAll", unfollowed := true, recurses := true, apart := false }
def FnExactFireAllSaid : Prop := fnExactFireAllRow.holds Try.pinned (OpenSpec.ofChange fnExactFireAllSpec)

/-- ITS FALSE NEIGHBOUR: 'it returns false'. Refute it at one input. -/
def fnExactFireAllWrong : ChangeSpec := { name := "fnExactFireAll", fn := fun _ => fun
  | [d1, d2, d3] => { results := [.lit (.bool false)], args := [d1, d2, d3] }
  | _ => none }
def FnExactFireAllWrongFalsely : Prop := fnExactFireAllRow.holds Try.pinned (OpenSpec.ofChange fnExactFireAllWrong)

/-- 'laws.FnExactTurnNet': WHATEVER THE INPUT: true; the input reads as it did. -/
def fnExactTurnNetSpec : ChangeSpec := { name := "fnExactTurnNet", fn := fun _ => fun
  | [d] => { results := [.lit (.bool true)], args := [d] }
  | _ => none }
def fnExactTurnNetRow : OpenClaim := { program := "ytdcbieganlmniaa", sum := "fcc807b79b57564cf59b517a6e5348f9505ae6ee6e99e4aa015f4961a7f22f9f", func := "loop.example/g00662/laws.FnExactTurnNet", spec := "fnExactTurnNet", unfollowed := true, recurses := true, apart := false }
def FnExactTurnNetSaid : Prop := fnExactTurnNetRow.holds Try.pinned (OpenSpec.ofChange fnExactTurnNetSpec)

/-- ITS FALSE NEIGHBOUR: 'it returns false'. Refute it at one input. -/
def fnExactTurnNetWrong : ChangeSpec := { name := "fnExactTurnNet", fn := fun _ => fun
  | [d] => { results := [.lit (.bool false)], args := [d] }
  | _ => none }
def FnExactTurnNetWrongFalsely : Prop := fnExactTurnNetRow.holds Try.pinned (OpenSpec.ofChange fnExactTurnNetWrong)

/-- 'laws.FnExactStepBack': WHATEVER THE INPUT: true; the input reads as it did. -/
def fnExactStepBackSpec : ChangeSpec := { name := "fnExactStepBack", fn := fun _ => fun
  | [d1, d2, d3] => { results := [.lit (.bool true)], args := [d1, d2, d3] }
  | _ => none }
def fnExactStepBackRow : OpenClaim := { program := "ytdcbieganlmniaa", sum := "fcc807b79b57564cf59b517a6e5348f9505ae6ee6e99e4aa015f4961a7f22f9f", func := "loop.example/g00662/laws.FnExactStepBack", spec := "fnExactStepBack", unfollowed := true, recurses := true, apart := false }
def FnExactStepBackSaid : Prop := fnExactStepBackRow.holds Try.pinned (OpenSpec.ofChange fnExactStepBackSpec)

/-- ITS FALSE NEIGHBOUR: 'it returns false'. Refute it at one input. -/
def fnExactStepBackWrong : ChangeSpec := { name := "fnExactStepBack", fn := fun _ => fun
  | [d1, d2, d3] => { results := [.lit (.bool false)], args := [d1, d2, d3] }
  | _ => none }
def FnExactStepBackWrongFalsely : Prop := fnExactStepBackRow.holds Try.pinned (OpenSpec.ofChange fnExactStepBackWrong)

/-- 'laws.FnExactDropMark': WHATEVER THE INPUT: true; the input reads as it did. -/
def fnExactDropMarkSpec : ChangeSpec := { name := "fnExactDropMark", fn := fun _ => fun
  | [d1, d2] => { results := [.lit (.bool true)], args := [d1, d2] }
  | _ => none }
def fnExactDropMarkRow : OpenClaim := { program := "ytdcbieganlmniaa", sum := "fcc807b79b57564cf59b517a6e5348f9505ae6ee6e99e4aa015f4961a7f22f9f", func := "loop.example/g00662/laws.FnExactDropMark", spec := "fnExactDropMark", apart := false }
def FnExactDropMarkSaid : Prop := fnExactDropMarkRow.holds Try.pinned (OpenSpec.ofChange fnExactDropMarkSpec)

/-- ITS FALSE NEIGHBOUR: 'it returns false'. Refute it at one input. -/
def fnExactDropMarkWrong : ChangeSpec := { name := "fnExactDropMark", fn := fun _ => fun
  | [d1, d2] => { results := [.lit (.bool false)], args := [d1, d2] }
  | _ => none }
def FnExactDropMarkWrongFalsely : Prop := fnExactDropMarkRow.holds Try.pinned (OpenSpec.ofChange fnExactDropMarkWrong)

/- THE SECOND FORM. 'bulk': how many values and letters a reading holds, each counted each time it is reached (what is shared counts as often as it is met; a slice's spare places count too). A statement '..UptoSaid' is the law's where the arguments, and the package variables that the reading takes, are together of bulk at most 1048576: NARROWER than '..Said'. Prove '..Said' where nothing that the law and all that it calls make is longer than what came in: it says more and counts as full. Else prove '..UptoSaid'. A law counts once. -/
mutual
def uptoBulk {H : Type} : DataW H → Nat
  | .lit (.string bytes) => bytes.length + 1
  | .lit _ => 1
  | .nil => 1
  | .ptr d => uptoBulk d + 1
  | .slice elems spare => uptoBulkAll elems + uptoBulkAll spare + 1
  | .agg parts => uptoBulkAll parts + 1
  | .iface _ d => uptoBulk d + 1
  | .map entries => uptoBulkEntries entries + 1
  | .held _ => 1
def uptoBulkAll {H : Type} : List (DataW H) → Nat
  | [] => 0
  | d :: r => uptoBulk d + uptoBulkAll r
def uptoBulkEntries {H : Type} : List (Lit × DataW H) → Nat
  | [] => 0
  | x :: r => uptoBulkEntry x + uptoBulkEntries r
def uptoBulkEntry {H : Type} : Lit × DataW H → Nat
  | (.string bytes, d) => bytes.length + uptoBulk d + 1
  | (_, d) => uptoBulk d + 1
 end
def uptoSmall : (H : Type) → List (DataW H) → Bool := fun _ ds => decide (uptoBulkAll ds ≤ 1048576)
def OpenSpec.upto (s : _root_.Go.ChangeSpec) : _root_.Go.OpenSpec := { _root_.Go.OpenSpec.ofChange s with cond := some uptoSmall }

/-- 'laws.FnExactGoodNet', WHERE WHAT IT READS IS OF BULK AT MOST 1048576: true; the input reads as it did. -/
def fnExactGoodNetUptoRow : OpenClaim := { program := "ytdcbieganlmniaa", sum := "fcc807b79b57564cf59b517a6e5348f9505ae6ee6e99e4aa015f4961a7f22f9f", func := "loop.example/g00662/laws.FnExactGoodNet", spec := "fnExactGoodNet", unfollowed := true, recurses := true, apart := false, narrowed := true }
def FnExactGoodNetUptoSaid : Prop := fnExactGoodNetUptoRow.holds Try.pinned (OpenSpec.upto fnExactGoodNetSpec)

/-- 'laws.FnExactHasResets', WHERE WHAT IT READS IS OF BULK AT MOST 1048576: true; the input reads as it did. -/
def fnExactHasResetsUptoRow : OpenClaim := { program := "ytdcbieganlmniaa", sum := "fcc807b79b57564cf59b517a6e5348f9505ae6ee6e99e4aa015f4961a7f22f9f", func := "loop.example/g00662/laws.FnExactHasResets", spec := "fnExactHasResets", unfollowed := true, recurses := true, apart := false, narrowed := true }
def FnExactHasResetsUptoSaid : Prop := fnExactHasResetsUptoRow.holds Try.pinned (OpenSpec.upto fnExactHasResetsSpec)

/-- 'laws.FnExactIsFreeChoice', WHERE WHAT IT READS IS OF BULK AT MOST 1048576: true; the input reads as it did. -/
def fnExactIsFreeChoiceUptoRow : OpenClaim := { program := "ytdcbieganlmniaa", sum := "fcc807b79b57564cf59b517a6e5348f9505ae6ee6e99e4aa015f4961a7f22f9f", func := "loop.example/g00662/laws.FnExactIsFreeChoice", spec := "fnExactIsFreeChoice", unfollowed := true, recurses := true, apart := false, narrowed := true }
def FnExactIsFreeChoiceUptoSaid : Prop := fnExactIsFreeChoiceUptoRow.holds Try.pinned (OpenSpec.upto fnExactIsFreeChoiceSpec)

/-- 'laws.FnExactGiversOf', WHERE WHAT IT READS IS OF BULK AT MOST 1048576: true; the input reads as it did. -/
def fnExactGiversOfUptoRow : OpenClaim := { program := "ytdcbieganlmniaa", sum := "fcc807b79b57564cf59b517a6e5348f9505ae6ee6e99e4aa015f4961a7f22f9f", func := "loop.example/g00662/laws.FnExactGiversOf", spec := "fnExactGiversOf", unfollowed := true, recurses := true, apart := false, narrowed := true }
def FnExactGiversOfUptoSaid : Prop := fnExactGiversOfUptoRow.holds Try.pinned (OpenSpec.upto fnExactGiversOfSpec)

/-- 'laws.FnExactTakersOf', WHERE WHAT IT READS IS OF BULK AT MOST 1048576: true; the input reads as it did. -/
def fnExactTakersOfUptoRow : OpenClaim := { program := "ytdcbieganlmniaa", sum := "fcc807b79b57564cf59b517a6e5348f9505ae6ee6e99e4aa015f4961a7f22f9f", func := "loop.example/g00662/laws.FnExactTakersOf", spec := "fnExactTakersOf", unfollowed := true, recurses := true, apart := false, narrowed := true }
def FnExactTakersOfUptoSaid : Prop := fnExactTakersOfUptoRow.holds Try.pinned (OpenSpec.upto fnExactTakersOfSpec)

/-- 'laws.FnExactEnabled', WHERE WHAT IT READS IS OF BULK AT MOST 1048576: true; the input reads as it did. -/
def fnExactEnabledUptoRow : OpenClaim := { program := "ytdcbieganlmniaa", sum := "fcc807b79b57564cf59b517a6e5348f9505ae6ee6e99e4aa015f4961a7f22f9f", func := "loop.example/g00662/laws.FnExactEnabled", spec := "fnExactEnabled", unfollowed := true, recurses := true, apart := false, narrowed := true }
def FnExactEnabledUptoSaid : Prop := fnExactEnabledUptoRow.holds Try.pinned (OpenSpec.upto fnExactEnabledSpec)

/-- 'laws.FnExactFire', WHERE WHAT IT READS IS OF BULK AT MOST 1048576: true; the input reads as it did. -/
def fnExactFireUptoRow : OpenClaim := { program := "ytdcbieganlmniaa", sum := "fcc807b79b57564cf59b517a6e5348f9505ae6ee6e99e4aa015f4961a7f22f9f", func := "loop.example/g00662/laws.FnExactFire", spec := "fnExactFire", unfollowed := true, recurses := true, apart := false, narrowed := true }
def FnExactFireUptoSaid : Prop := fnExactFireUptoRow.holds Try.pinned (OpenSpec.upto fnExactFireSpec)

/-- 'laws.FnExactFireAll', WHERE WHAT IT READS IS OF BULK AT MOST 1048576: true; the input reads as it did. -/
def fnExactFireAllUptoRow : OpenClaim := { program := "ytdcbieganlmniaa", sum := "fcc807b79b57564cf59b517a6e5348f9505ae6ee6e99e4aa015f4961a7f22f9f", func := "loop.example/g00662/laws.FnExactFireAll", spec := "fnExactFireAll", unfollowed := true, recurses := true, apart := false, narrowed := true }
def FnExactFireAllUptoSaid : Prop := fnExactFireAllUptoRow.holds Try.pinned (OpenSpec.upto fnExactFireAllSpec)

/-- 'laws.FnExactTurnNet', WHERE WHAT IT READS IS OF BULK AT MOST 1048576: true; the input reads as it did. -/
def fnExactTurnNetUptoRow : OpenClaim := { program := "ytdcbieganlmniaa", sum := "fcc807b79b57564cf59b517a6e5348f9505ae6ee6e99e4aa015f4961a7f22f9f", func := "loop.example/g00662/laws.FnExactTurnNet", spec := "fnExactTurnNet", unfollowed := true, recurses := true, apart := false, narrowed := true }
def FnExactTurnNetUptoSaid : Prop := fnExactTurnNetUptoRow.holds Try.pinned (OpenSpec.upto fnExactTurnNetSpec)

/-- 'laws.FnExactStepBack', WHERE WHAT IT READS IS OF BULK AT MOST 1048576: true; the input reads as it did. -/
def fnExactStepBackUptoRow : OpenClaim := { program := "ytdcbieganlmniaa", sum := "fcc807b79b57564cf59b517a6e5348f9505ae6ee6e99e4aa015f4961a7f22f9f", func := "loop.example/g00662/laws.FnExactStepBack", spec := "fnExactStepBack", unfollowed := true, recurses := true, apart := false, narrowed := true }
def FnExactStepBackUptoSaid : Prop := fnExactStepBackUptoRow.holds Try.pinned (OpenSpec.upto fnExactStepBackSpec)

/-- 'laws.FnExactDropMark', WHERE WHAT IT READS IS OF BULK AT MOST 1048576: true; the input reads as it did. -/
def fnExactDropMarkUptoRow : OpenClaim := { program := "ytdcbieganlmniaa", sum := "fcc807b79b57564cf59b517a6e5348f9505ae6ee6e99e4aa015f4961a7f22f9f", func := "loop.example/g00662/laws.FnExactDropMark", spec := "fnExactDropMark", apart := false, narrowed := true }
def FnExactDropMarkUptoSaid : Prop := fnExactDropMarkUptoRow.holds Try.pinned (OpenSpec.upto fnExactDropMarkSpec)

end Rows
end Go.Proofs.Ytdcbieganlmniaa
