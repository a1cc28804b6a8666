/-
  DERIVED. GIVEN WITH THE SEED: THE CARDS: each row of YtdekolkngokmpaaDoorRows.lean that lists a variable, with what it lists TIED to the program's text (the seventh form; the later family's looks); each row that meets fmt, with fmt's text TOLD by the authors' own Lean function (tested against real Go, not proved from fmt's source: count such statements apart). THE CARD IS WHAT COUNTS. Prove the row's statement (the work); the ties are given (YtdekolkngokmpaaDoorTie.lean); close each card by the builder's one call (the guide's Derived/Test/ToyasCard.lean, 'card_holds'). Laid BY PROGRAM, IN A SANDBOX (cutbox-door.mjs). By AI agents, Wed Nov 11 2026. No macro, syntax, notation, axiom, sorry.
-/
import Derived.Test.YtdekolkngokmpaaDoorRows
import GoSem.ClaimSeven
namespace Go.Proofs.YtdekolkngokmpaaDoor
namespace Rows

/-- THE TIED CARD OF 'laws.FnExactBoxText'. -/
def fnExactBoxTextCard : Claim7 := { stood := { row := fnExactBoxTextRow, standIns := [], harness := (true, "47dc5cf5d4e23fcb09378cf31b7525696b44d63779f71bcf97729423b1de5b2b"), looks := true }, kinds := [], alts := [], laidByText := true, laidKinds := [.data, .data, .data], laidTests := true, laidLooks := .later }
def FnExactBoxTextCardSaid : Prop := Claim7.holds Tryd.pinned (.plain (OpenSpec.ofChange fnExactBoxTextSpec)) fnExactBoxTextCard

/-- THE TIED CARD OF 'laws.FnExactReadBox'. -/
def fnExactReadBoxCard : Claim7 := { stood := { row := fnExactReadBoxRow, standIns := [], harness := (true, "47dc5cf5d4e23fcb09378cf31b7525696b44d63779f71bcf97729423b1de5b2b"), looks := true }, kinds := [], alts := [], laidByText := true, laidKinds := [.data, .data, .data, .data, .sentinel, .sentinel, .pinned], laidTests := true, laidLooks := .later }
def FnExactReadBoxCardSaid : Prop := Claim7.holds Tryd.pinned (.plain (OpenSpec.ofChange fnExactReadBoxSpec)) fnExactReadBoxCard

/-- THE SECOND FORM's CARD OF 'laws.FnExactBoxText'. -/
def fnExactBoxTextUptoCard : Claim7 := { stood := { row := fnExactBoxTextUptoRow, standIns := [], harness := (true, "47dc5cf5d4e23fcb09378cf31b7525696b44d63779f71bcf97729423b1de5b2b"), looks := true }, kinds := [], alts := [], laidByText := true, laidKinds := [.data, .data, .data], laidTests := true, laidLooks := .later }
def FnExactBoxTextUptoCardSaid : Prop := Claim7.holds Tryd.pinned (.plain (OpenSpec.upto fnExactBoxTextSpec)) fnExactBoxTextUptoCard

/-- THE SECOND FORM's CARD OF 'laws.FnExactReadBox'. -/
def fnExactReadBoxUptoCard : Claim7 := { stood := { row := fnExactReadBoxUptoRow, standIns := [], harness := (true, "47dc5cf5d4e23fcb09378cf31b7525696b44d63779f71bcf97729423b1de5b2b"), looks := true }, kinds := [], alts := [], laidByText := true, laidKinds := [.data, .data, .data, .data, .sentinel, .sentinel, .pinned], laidTests := true, laidLooks := .later }
def FnExactReadBoxUptoCardSaid : Prop := Claim7.holds Tryd.pinned (.plain (OpenSpec.upto fnExactReadBoxSpec)) fnExactReadBoxUptoCard
end Rows
end Go.Proofs.YtdekolkngokmpaaDoor
