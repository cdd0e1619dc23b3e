/-
  DERIVED. GIVEN WITH THE SEED: THE CARDS: each row of YtbkjgnfnjgebiaaDoorRows.lean that lists a variable, with what it lists TIED to the program's text (the seventh form; the later family's looks); each row that meets fmt, with fmt's text TOLD by the authors' own Lean function (tested against real Go, not proved from fmt's source: count such statements apart). THE CARD IS WHAT COUNTS. Prove the row's statement (the work); the ties are given (YtbkjgnfnjgebiaaDoorTie.lean); close each card by the builder's one call (the guide's Derived/Test/ToyasCard.lean, 'card_holds'). Laid BY PROGRAM, IN A SANDBOX (cutbox-door.mjs). By AI agents, Wed Nov 11 2026. No macro, syntax, notation, axiom, sorry.
-/
import Derived.Test.YtbkjgnfnjgebiaaDoorRows
import GoSem.ClaimSeven
namespace Go.Proofs.YtbkjgnfnjgebiaaDoor
namespace Rows

/-- THE TIED CARD OF 'laws.FnExactMarkText'. -/
def fnExactMarkTextCard : Claim7 := { stood := { row := fnExactMarkTextRow, standIns := [], harness := (true, "2becdbcb788e57db0e470df24cc3f5f8b9dfa1cb6dabf0a18082154daf2d8afa"), looks := true }, kinds := [], alts := [], laidByText := true, laidKinds := [.data, .data, .data], laidTests := true, laidLooks := .later }
def FnExactMarkTextCardSaid : Prop := Claim7.holds Tryd.pinned (.plain (OpenSpec.ofChange fnExactMarkTextSpec)) fnExactMarkTextCard

/-- THE TIED CARD OF 'laws.FnExactReadMark'. -/
def fnExactReadMarkCard : Claim7 := { stood := { row := fnExactReadMarkRow, standIns := [], harness := (true, "2becdbcb788e57db0e470df24cc3f5f8b9dfa1cb6dabf0a18082154daf2d8afa"), looks := true }, kinds := [], alts := [], laidByText := true, laidKinds := [.data, .data, .data, .data, .sentinel, .sentinel, .pinned], laidTests := true, laidLooks := .later }
def FnExactReadMarkCardSaid : Prop := Claim7.holds Tryd.pinned (.plain (OpenSpec.ofChange fnExactReadMarkSpec)) fnExactReadMarkCard

/-- THE SECOND FORM's CARD OF 'laws.FnExactMarkText'. -/
def fnExactMarkTextUptoCard : Claim7 := { stood := { row := fnExactMarkTextUptoRow, standIns := [], harness := (true, "2becdbcb788e57db0e470df24cc3f5f8b9dfa1cb6dabf0a18082154daf2d8afa"), looks := true }, kinds := [], alts := [], laidByText := true, laidKinds := [.data, .data, .data], laidTests := true, laidLooks := .later }
def FnExactMarkTextUptoCardSaid : Prop := Claim7.holds Tryd.pinned (.plain (OpenSpec.upto fnExactMarkTextSpec)) fnExactMarkTextUptoCard

/-- THE SECOND FORM's CARD OF 'laws.FnExactReadMark'. -/
def fnExactReadMarkUptoCard : Claim7 := { stood := { row := fnExactReadMarkUptoRow, standIns := [], harness := (true, "2becdbcb788e57db0e470df24cc3f5f8b9dfa1cb6dabf0a18082154daf2d8afa"), looks := true }, kinds := [], alts := [], laidByText := true, laidKinds := [.data, .data, .data, .data, .sentinel, .sentinel, .pinned], laidTests := true, laidLooks := .later }
def FnExactReadMarkUptoCardSaid : Prop := Claim7.holds Tryd.pinned (.plain (OpenSpec.upto fnExactReadMarkSpec)) fnExactReadMarkUptoCard
end Rows
end Go.Proofs.YtbkjgnfnjgebiaaDoor
