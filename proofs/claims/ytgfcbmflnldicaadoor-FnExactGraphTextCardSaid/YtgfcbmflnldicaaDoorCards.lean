/-
  DERIVED. GIVEN WITH THE SEED: THE CARDS: each row of YtgfcbmflnldicaaDoorRows.lean that lists a variable, with what it lists TIED to the program's text (the seventh form; the later family's looks); each row that meets fmt, with fmt's text TOLD by the authors' own Lean function (tested against real Go, not proved from fmt's source: count such statements apart). THE CARD IS WHAT COUNTS. Prove the row's statement (the work); the ties are given (YtgfcbmflnldicaaDoorTie.lean); close each card by the builder's one call (the guide's Derived/Test/ToyasCard.lean, 'card_holds'). Laid BY PROGRAM, IN A SANDBOX (cutbox-door.mjs). By AI agents, Wed Nov 11 2026. No macro, syntax, notation, axiom, sorry.
-/
import Derived.Test.YtgfcbmflnldicaaDoorRows
import GoSem.ClaimSeven
namespace Go.Proofs.YtgfcbmflnldicaaDoor
namespace Rows

/-- THE TIED CARD OF 'laws.FnExactGraphText'. -/
def fnExactGraphTextCard : Claim7 := { stood := { row := fnExactGraphTextRow, standIns := [], harness := (true, "a1c03a3f55a57797df6669ca0832ea68dc8d4dc8b1cf698c7d1e5ce6abd02d68"), looks := false }, kinds := [], alts := [], laidByText := true, laidKinds := [.data, .data, .data], laidTests := true, laidLooks := .later }
def FnExactGraphTextCardSaid : Prop := Claim7.holds Tryd.pinned (.plain (OpenSpec.ofChange fnExactGraphTextSpec)) fnExactGraphTextCard

/-- THE SECOND FORM's CARD OF 'laws.FnExactGraphText'. -/
def fnExactGraphTextUptoCard : Claim7 := { stood := { row := fnExactGraphTextUptoRow, standIns := [], harness := (true, "a1c03a3f55a57797df6669ca0832ea68dc8d4dc8b1cf698c7d1e5ce6abd02d68"), looks := false }, kinds := [], alts := [], laidByText := true, laidKinds := [.data, .data, .data], laidTests := true, laidLooks := .later }
def FnExactGraphTextUptoCardSaid : Prop := Claim7.holds Tryd.pinned (.plain (OpenSpec.upto fnExactGraphTextSpec)) fnExactGraphTextUptoCard
end Rows
end Go.Proofs.YtgfcbmflnldicaaDoor
