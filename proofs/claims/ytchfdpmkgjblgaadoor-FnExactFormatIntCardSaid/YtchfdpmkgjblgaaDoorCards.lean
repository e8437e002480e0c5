/-
  DERIVED. GIVEN WITH THE SEED: THE CARDS: each row of YtchfdpmkgjblgaaDoorRows.lean that lists a variable, with what it lists TIED to the program's text (the seventh form; the later family's looks); each row that meets fmt, with fmt's text TOLD by the authors' own Lean function (tested against real Go, not proved from fmt's source: count such statements apart). THE CARD IS WHAT COUNTS. Prove the row's statement (the work); the ties are given (YtchfdpmkgjblgaaDoorTie.lean); close each card by the builder's one call (the guide's Derived/Test/ToyasCard.lean, 'card_holds'). Laid BY PROGRAM, IN A SANDBOX (cutbox-door.mjs). By AI agents, Wed Nov 11 2026. No macro, syntax, notation, axiom, sorry.
-/
import Derived.Test.YtchfdpmkgjblgaaDoorRows
import GoSem.ClaimSeven
namespace Go.Proofs.YtchfdpmkgjblgaaDoor
namespace Rows

/-- THE TIED CARD OF 'laws.FnExactFormatInt'. -/
def fnExactFormatIntCard : Claim7 := { stood := { row := fnExactFormatIntRow, standIns := [], harness := (true, "50190e663ecb1f0ce422afa79d18eb7e5d2f6f97f412a98371ab99e6a7d32a5f"), looks := true }, kinds := [], alts := [], laidByText := true, laidKinds := [.data, .data, .data], laidTests := true, laidLooks := .later }
def FnExactFormatIntCardSaid : Prop := Claim7.holds Tryd.pinned (.plain (OpenSpec.ofChange fnExactFormatIntSpec)) fnExactFormatIntCard

/-- THE TIED CARD OF 'laws.FnExactArith'. -/
def fnExactArithCard : Claim7 := { stood := { row := fnExactArithRow, standIns := [], harness := (true, "50190e663ecb1f0ce422afa79d18eb7e5d2f6f97f412a98371ab99e6a7d32a5f"), looks := true }, kinds := [], alts := [], laidByText := true, laidKinds := [.handle], laidTests := true, laidLooks := .later }
def FnExactArithCardSaid : Prop := Claim7.holds Tryd.pinned (.plain (OpenSpec.ofChange fnExactArithSpec)) fnExactArithCard

/-- THE SECOND FORM's CARD OF 'laws.FnExactFormatInt'. -/
def fnExactFormatIntUptoCard : Claim7 := { stood := { row := fnExactFormatIntUptoRow, standIns := [], harness := (true, "50190e663ecb1f0ce422afa79d18eb7e5d2f6f97f412a98371ab99e6a7d32a5f"), looks := true }, kinds := [], alts := [], laidByText := true, laidKinds := [.data, .data, .data], laidTests := true, laidLooks := .later }
def FnExactFormatIntUptoCardSaid : Prop := Claim7.holds Tryd.pinned (.plain (OpenSpec.upto fnExactFormatIntSpec)) fnExactFormatIntUptoCard

/-- THE SECOND FORM's CARD OF 'laws.FnExactArith'. -/
def fnExactArithUptoCard : Claim7 := { stood := { row := fnExactArithUptoRow, standIns := [], harness := (true, "50190e663ecb1f0ce422afa79d18eb7e5d2f6f97f412a98371ab99e6a7d32a5f"), looks := true }, kinds := [], alts := [], laidByText := true, laidKinds := [.handle], laidTests := true, laidLooks := .later }
def FnExactArithUptoCardSaid : Prop := Claim7.holds Tryd.pinned (.plain (OpenSpec.upto fnExactArithSpec)) fnExactArithUptoCard
end Rows
end Go.Proofs.YtchfdpmkgjblgaaDoor
