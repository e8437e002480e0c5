/-
  DERIVED. GIVEN WITH THE SEED: THE CARDS: each row of YtmmpiojekgfdjaaDoorRows.lean that lists a variable, with what it lists TIED to the program's text (the seventh form; the later family's looks); each row that meets fmt, with fmt's text TOLD by the authors' own Lean function (tested against real Go, not proved from fmt's source: count such statements apart). THE CARD IS WHAT COUNTS. Prove the row's statement (the work); the ties are given (YtmmpiojekgfdjaaDoorTie.lean); close each card by the builder's one call (the guide's Derived/Test/ToyasCard.lean, 'card_holds'). Laid BY PROGRAM, IN A SANDBOX (cutbox-door.mjs). By AI agents, Wed Nov 11 2026. No macro, syntax, notation, axiom, sorry.
-/
import Derived.Test.YtmmpiojekgfdjaaDoorRows
import GoSem.ClaimSeven
namespace Go.Proofs.YtmmpiojekgfdjaaDoor
namespace Rows

/-- THE TIED CARD OF 'laws.FnExactListProgram'. -/
def fnExactListProgramCard : Claim7 := { stood := { row := fnExactListProgramRow, standIns := [], harness := (true, "8518877b69f9811ae32db92d759c21d5483e274b58a398a9460a0b4bd3195acc"), looks := false }, kinds := [], alts := [], laidByText := true, laidKinds := [.data, .data, .data], laidTests := true, laidLooks := .later }
def FnExactListProgramCardSaid : Prop := Claim7.holds Tryd.pinned (.plain (OpenSpec.ofChange fnExactListProgramSpec)) fnExactListProgramCard

/-- THE SECOND FORM's CARD OF 'laws.FnExactListProgram'. -/
def fnExactListProgramUptoCard : Claim7 := { stood := { row := fnExactListProgramUptoRow, standIns := [], harness := (true, "8518877b69f9811ae32db92d759c21d5483e274b58a398a9460a0b4bd3195acc"), looks := false }, kinds := [], alts := [], laidByText := true, laidKinds := [.data, .data, .data], laidTests := true, laidLooks := .later }
def FnExactListProgramUptoCardSaid : Prop := Claim7.holds Tryd.pinned (.plain (OpenSpec.upto fnExactListProgramSpec)) fnExactListProgramUptoCard
end Rows
end Go.Proofs.YtmmpiojekgfdjaaDoor
