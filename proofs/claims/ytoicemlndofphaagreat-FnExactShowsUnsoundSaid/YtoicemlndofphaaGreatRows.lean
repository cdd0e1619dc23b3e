/-
  No cell of these rows narrows 'for every input' (looked for: loops, veiled, ifaces, maps, wideKeys, modest, calm, conditions, laid).
  DERIVED. THE GIVEN ROWS OF THIS SEAT. 2 by the template 'for every input the law returns true; each argument reads behind the call as it read before'; 0 by the template 'total and deterministic' (their statements: YtoicemlndofphaaGreatTotals.lean).
  GIVEN WITH THE SEED: the statements are not yours to turn. If you find one false, say at which input.
  Laid BY PROGRAM, IN A SANDBOX (cutbox-rows.mjs): the forced cells as the released guide's own fill.sh prints them over the translation bde7e3b21942f1fd… (all of the seat's roots in one cut). By AI agents, Wed Nov 11 2026. No macro, syntax, notation, axiom, sorry.
-/
import Derived.Test.YtoicemlndofphaaGreatChecked
import GoSem.Claim
import GoSem.ClaimJoined
import GoSem.ClaimMapViews
import Derived.JoinedTies
import Derived.KernelRfl
namespace Go.Proofs.YtoicemlndofphaaGreat
/- THE CELL 'sum', in the pinned program and in every row, IS THE sha256 OF THE DUMP (.gsa) THAT YtoicemlndofphaaGreatProg.lean LOADS. Nothing in Lean hashes anything: it is a label: what it is worth is what the hold of that sum in a sandbox is worth. -/
noncomputable def Tryz.pinned : Pinned := { name := "ytoicemlndofphaagreat", sum := "bde7e3b21942f1fd162758544afe66903cafe1fb9d87b44e2cb8a97a0763aab6", checked := Tryz.checked }
namespace Rows
def none {H : Type} : Left H := { results := [], args := [] }

/-- 'laws.FnExactCertFor': WHATEVER THE INPUT: true; the input reads as it did. -/
def fnExactCertForSpec : ChangeSpec := { name := "fnExactCertFor", fn := fun _ => fun
  | [d1, d2] => { results := [.lit (.bool true)], args := [d1, d2] }
  | _ => none }
def fnExactCertForRow : OpenClaim := { program := "ytoicemlndofphaagreat", sum := "bde7e3b21942f1fd162758544afe66903cafe1fb9d87b44e2cb8a97a0763aab6", func := "loop.example/g00662/laws.FnExactCertFor", spec := "fnExactCertFor", unfollowed := true, recurses := true, apart := false }
def FnExactCertForSaid : Prop := fnExactCertForRow.holds Tryz.pinned (OpenSpec.ofChange fnExactCertForSpec)

/-- ITS FALSE NEIGHBOUR: 'it returns false'. Refute it at one input. -/
def fnExactCertForWrong : ChangeSpec := { name := "fnExactCertFor", fn := fun _ => fun
  | [d1, d2] => { results := [.lit (.bool false)], args := [d1, d2] }
  | _ => none }
def FnExactCertForWrongFalsely : Prop := fnExactCertForRow.holds Tryz.pinned (OpenSpec.ofChange fnExactCertForWrong)

/-- 'laws.FnExactShowsUnsound': WHATEVER THE INPUT: true; the input reads as it did. -/
def fnExactShowsUnsoundSpec : ChangeSpec := { name := "fnExactShowsUnsound", fn := fun _ => fun
  | [d1, d2, d3] => { results := [.lit (.bool true)], args := [d1, d2, d3] }
  | _ => none }
def fnExactShowsUnsoundRow : OpenClaim := { program := "ytoicemlndofphaagreat", sum := "bde7e3b21942f1fd162758544afe66903cafe1fb9d87b44e2cb8a97a0763aab6", func := "loop.example/g00662/laws.FnExactShowsUnsound", spec := "fnExactShowsUnsound", unfollowed := true, recurses := true, apart := false }
def FnExactShowsUnsoundSaid : Prop := fnExactShowsUnsoundRow.holds Tryz.pinned (OpenSpec.ofChange fnExactShowsUnsoundSpec)

/-- ITS FALSE NEIGHBOUR: 'it returns false'. Refute it at one input. -/
def fnExactShowsUnsoundWrong : ChangeSpec := { name := "fnExactShowsUnsound", fn := fun _ => fun
  | [d1, d2, d3] => { results := [.lit (.bool false)], args := [d1, d2, d3] }
  | _ => none }
def FnExactShowsUnsoundWrongFalsely : Prop := fnExactShowsUnsoundRow.holds Tryz.pinned (OpenSpec.ofChange fnExactShowsUnsoundWrong)

/- THE SECOND FORM. 'bulk': how many values and letters a reading holds, each counted each time it is reached (what is shared counts as often as it is met; a slice's spare places count too). A statement '..UptoSaid' is the law's where the arguments, and the package variables that the reading takes, are together of bulk at most 1048576: NARROWER than '..Said'. Prove '..Said' where nothing that the law and all that it calls make is longer than what came in: it says more and counts as full. Else prove '..UptoSaid'. A law counts once. -/
mutual
def uptoBulk {H : Type} : DataW H → Nat
  | .lit (.string bytes) => bytes.length + 1
  | .lit _ => 1
  | .nil => 1
  | .ptr d => uptoBulk d + 1
  | .slice elems spare => uptoBulkAll elems + uptoBulkAll spare + 1
  | .agg parts => uptoBulkAll parts + 1
  | .iface _ d => uptoBulk d + 1
  | .map entries => uptoBulkEntries entries + 1
  | .held _ => 1
def uptoBulkAll {H : Type} : List (DataW H) → Nat
  | [] => 0
  | d :: r => uptoBulk d + uptoBulkAll r
def uptoBulkEntries {H : Type} : List (Lit × DataW H) → Nat
  | [] => 0
  | x :: r => uptoBulkEntry x + uptoBulkEntries r
def uptoBulkEntry {H : Type} : Lit × DataW H → Nat
  | (.string bytes, d) => bytes.length + uptoBulk d + 1
  | (_, d) => uptoBulk d + 1
 end
def uptoSmall : (H : Type) → List (DataW H) → Bool := fun _ ds => decide (uptoBulkAll ds ≤ 1048576)
def OpenSpec.upto (s : _root_.Go.ChangeSpec) : _root_.Go.OpenSpec := { _root_.Go.OpenSpec.ofChange s with cond := some uptoSmall }

/-- 'laws.FnExactCertFor', WHERE WHAT IT READS IS OF BULK AT MOST 1048576: true; the input reads as it did. -/
def fnExactCertForUptoRow : OpenClaim := { program := "ytoicemlndofphaagreat", sum := "bde7e3b21942f1fd162758544afe66903cafe1fb9d87b44e2cb8a97a0763aab6", func := "loop.example/g00662/laws.FnExactCertFor", spec := "fnExactCertFor", unfollowed := true, recurses := true, apart := false, narrowed := true }
def FnExactCertForUptoSaid : Prop := fnExactCertForUptoRow.holds Tryz.pinned (OpenSpec.upto fnExactCertForSpec)

/-- 'laws.FnExactShowsUnsound', WHERE WHAT IT READS IS OF BULK AT MOST 1048576: true; the input reads as it did. -/
def fnExactShowsUnsoundUptoRow : OpenClaim := { program := "ytoicemlndofphaagreat", sum := "bde7e3b21942f1fd162758544afe66903cafe1fb9d87b44e2cb8a97a0763aab6", func := "loop.example/g00662/laws.FnExactShowsUnsound", spec := "fnExactShowsUnsound", unfollowed := true, recurses := true, apart := false, narrowed := true }
def FnExactShowsUnsoundUptoSaid : Prop := fnExactShowsUnsoundUptoRow.holds Tryz.pinned (OpenSpec.upto fnExactShowsUnsoundSpec)

end Rows
end Go.Proofs.YtoicemlndofphaaGreat
