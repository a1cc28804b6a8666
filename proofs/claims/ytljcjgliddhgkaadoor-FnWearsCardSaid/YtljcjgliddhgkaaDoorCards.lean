/-
  DERIVED. GIVEN WITH THE SEED: THE CARDS: each row of YtljcjgliddhgkaaDoorRows.lean that lists a variable, with what it lists TIED to the program's text (the seventh form; the later family's looks); each row that meets fmt, with fmt's text TOLD by the authors' own Lean function (tested against real Go, not proved from fmt's source: count such statements apart). THE CARD IS WHAT COUNTS. Prove the row's statement (the work); the ties are given (YtljcjgliddhgkaaDoorTie.lean); close each card by the builder's one call (the guide's Derived/Test/ToyasCard.lean, 'card_holds'). Laid BY PROGRAM, IN A SANDBOX (cutbox-door.mjs). By AI agents, Wed Nov 11 2026. No macro, syntax, notation, axiom, sorry.
-/
import Derived.Test.YtljcjgliddhgkaaDoorRows
import GoSem.ClaimSeven
namespace Go.Proofs.YtljcjgliddhgkaaDoor
namespace Rows

/-- THE TIED CARD OF 'laws.FnExactToothText'. -/
def fnExactToothTextCard : Claim7 := { stood := { row := fnExactToothTextRow, standIns := [], harness := (true, "a9cd91d9489bbf825ac23500862468c8d85cce98bf21a1b8b2d2c04fd8c965c6"), looks := false }, kinds := [], alts := [], laidByText := true, laidKinds := [.data, .data, .data], laidTests := true, laidLooks := .later }
def FnExactToothTextCardSaid : Prop := Claim7.holds Tryd.pinned (.plain (OpenSpec.ofChange fnExactToothTextSpec)) fnExactToothTextCard

/-- THE TIED CARD OF 'laws.FnExactReadTooth'. -/
def fnExactReadToothCard : Claim7 := { stood := { row := fnExactReadToothRow, standIns := [], harness := (true, "a9cd91d9489bbf825ac23500862468c8d85cce98bf21a1b8b2d2c04fd8c965c6"), looks := false }, kinds := [], alts := [], laidByText := true, laidKinds := [.data, .data, .data, .data, .pinned], laidTests := true, laidLooks := .later }
def FnExactReadToothCardSaid : Prop := Claim7.holds Tryd.pinned (.plain (OpenSpec.ofChange fnExactReadToothSpec)) fnExactReadToothCard

/-- THE TIED CARD OF 'laws.FnWears'. -/
def fnWearsCard : Claim7 := { stood := { row := fnWearsRow, standIns := [], harness := (true, "a9cd91d9489bbf825ac23500862468c8d85cce98bf21a1b8b2d2c04fd8c965c6"), looks := false }, kinds := [], alts := [], laidByText := true, laidKinds := [.data, .data, .data, .data, .pinned], laidTests := true, laidLooks := .later }
def FnWearsCardSaid : Prop := Claim7.holds Tryd.pinned (.plain (OpenSpec.ofChange fnWearsSpec)) fnWearsCard

/-- THE SECOND FORM's CARD OF 'laws.FnExactToothText'. -/
def fnExactToothTextUptoCard : Claim7 := { stood := { row := fnExactToothTextUptoRow, standIns := [], harness := (true, "a9cd91d9489bbf825ac23500862468c8d85cce98bf21a1b8b2d2c04fd8c965c6"), looks := false }, kinds := [], alts := [], laidByText := true, laidKinds := [.data, .data, .data], laidTests := true, laidLooks := .later }
def FnExactToothTextUptoCardSaid : Prop := Claim7.holds Tryd.pinned (.plain (OpenSpec.upto fnExactToothTextSpec)) fnExactToothTextUptoCard

/-- THE SECOND FORM's CARD OF 'laws.FnExactReadTooth'. -/
def fnExactReadToothUptoCard : Claim7 := { stood := { row := fnExactReadToothUptoRow, standIns := [], harness := (true, "a9cd91d9489bbf825ac23500862468c8d85cce98bf21a1b8b2d2c04fd8c965c6"), looks := false }, kinds := [], alts := [], laidByText := true, laidKinds := [.data, .data, .data, .data, .pinned], laidTests := true, laidLooks := .later }
def FnExactReadToothUptoCardSaid : Prop := Claim7.holds Tryd.pinned (.plain (OpenSpec.upto fnExactReadToothSpec)) fnExactReadToothUptoCard

/-- THE SECOND FORM's CARD OF 'laws.FnWears'. -/
def fnWearsUptoCard : Claim7 := { stood := { row := fnWearsUptoRow, standIns := [], harness := (true, "a9cd91d9489bbf825ac23500862468c8d85cce98bf21a1b8b2d2c04fd8c965c6"), looks := false }, kinds := [], alts := [], laidByText := true, laidKinds := [.data, .data, .data, .data, .pinned], laidTests := true, laidLooks := .later }
def FnWearsUptoCardSaid : Prop := Claim7.holds Tryd.pinned (.plain (OpenSpec.upto fnWearsSpec)) fnWearsUptoCard
end Rows
end Go.Proofs.YtljcjgliddhgkaaDoor
