/-
  DERIVED. GIVEN WITH THE SEED: THE CARDS: each row of YtkjnbafdmjakgaaDoorRows.lean that lists a variable, with what it lists TIED to the program's text (the seventh form; the later family's looks); each row that meets fmt, with fmt's text TOLD by the authors' own Lean function (tested against real Go, not proved from fmt's source: count such statements apart). THE CARD IS WHAT COUNTS. Prove the row's statement (the work); the ties are given (YtkjnbafdmjakgaaDoorTie.lean); close each card by the builder's one call (the guide's Derived/Test/ToyasCard.lean, 'card_holds'). Laid BY PROGRAM, IN A SANDBOX (cutbox-door.mjs). By AI agents, Wed Nov 11 2026. No macro, syntax, notation, axiom, sorry.
-/
import Derived.Test.YtkjnbafdmjakgaaDoorRows
import GoSem.ClaimSeven
namespace Go.Proofs.YtkjnbafdmjakgaaDoor
namespace Rows

/-- THE TIED CARD OF 'keepsakelaw18.PanesTexts'. -/
def panesTextsCard : Claim7 := { stood := { row := panesTextsRow, standIns := [], harness := (true, "aef4cbc355a0a0250caf57c07c4d8ed1f2bc813e8163512fe23217b16e9d212a"), looks := true }, kinds := [], alts := [], laidByText := true, laidKinds := [.data, .data, .data, .data, .sentinel, .sentinel, .pinned], laidTests := true, laidLooks := .later }
def PanesTextsCardSaid : Prop := Claim7.holds Tryd.pinned (.plain (OpenSpec.ofChange panesTextsSpec)) panesTextsCard

/-- THE TIED CARD OF 'keepsakelaw18.PanesBack'. -/
def panesBackCard : Claim7 := { stood := { row := panesBackRow, standIns := [], harness := (true, "aef4cbc355a0a0250caf57c07c4d8ed1f2bc813e8163512fe23217b16e9d212a"), looks := true }, kinds := [], alts := [], laidByText := true, laidKinds := [.data, .data, .data, .data, .sentinel, .sentinel, .pinned], laidTests := true, laidLooks := .later }
def PanesBackCardSaid : Prop := Claim7.holds Tryd.pinned (.plain (OpenSpec.ofChange panesBackSpec)) panesBackCard

/-- THE TIED CARD OF 'keepsakelaw18.PanesLines'. -/
def panesLinesCard : Claim7 := { stood := { row := panesLinesRow, standIns := [], harness := (true, "aef4cbc355a0a0250caf57c07c4d8ed1f2bc813e8163512fe23217b16e9d212a"), looks := true }, kinds := [], alts := [], laidByText := true, laidKinds := [.data, .data, .data, .data, .sentinel, .sentinel, .pinned], laidTests := true, laidLooks := .later }
def PanesLinesCardSaid : Prop := Claim7.holds Tryd.pinned (.plain (OpenSpec.ofChange panesLinesSpec)) panesLinesCard

/-- THE TIED CARD OF 'keepsakelaw18.PanesAlike'. -/
def panesAlikeCard : Claim7 := { stood := { row := panesAlikeRow, standIns := [], harness := (true, "aef4cbc355a0a0250caf57c07c4d8ed1f2bc813e8163512fe23217b16e9d212a"), looks := true }, kinds := [], alts := [], laidByText := true, laidKinds := [.data, .data, .data, .data, .sentinel, .sentinel, .pinned], laidTests := true, laidLooks := .later }
def PanesAlikeCardSaid : Prop := Claim7.holds Tryd.pinned (.plain (OpenSpec.ofChange panesAlikeSpec)) panesAlikeCard

/-- THE SECOND FORM's CARD OF 'keepsakelaw18.PanesTexts'. -/
def panesTextsUptoCard : Claim7 := { stood := { row := panesTextsUptoRow, standIns := [], harness := (true, "aef4cbc355a0a0250caf57c07c4d8ed1f2bc813e8163512fe23217b16e9d212a"), looks := true }, kinds := [], alts := [], laidByText := true, laidKinds := [.data, .data, .data, .data, .sentinel, .sentinel, .pinned], laidTests := true, laidLooks := .later }
def PanesTextsUptoCardSaid : Prop := Claim7.holds Tryd.pinned (.plain (OpenSpec.upto panesTextsSpec)) panesTextsUptoCard

/-- THE SECOND FORM's CARD OF 'keepsakelaw18.PanesBack'. -/
def panesBackUptoCard : Claim7 := { stood := { row := panesBackUptoRow, standIns := [], harness := (true, "aef4cbc355a0a0250caf57c07c4d8ed1f2bc813e8163512fe23217b16e9d212a"), looks := true }, kinds := [], alts := [], laidByText := true, laidKinds := [.data, .data, .data, .data, .sentinel, .sentinel, .pinned], laidTests := true, laidLooks := .later }
def PanesBackUptoCardSaid : Prop := Claim7.holds Tryd.pinned (.plain (OpenSpec.upto panesBackSpec)) panesBackUptoCard

/-- THE SECOND FORM's CARD OF 'keepsakelaw18.PanesLines'. -/
def panesLinesUptoCard : Claim7 := { stood := { row := panesLinesUptoRow, standIns := [], harness := (true, "aef4cbc355a0a0250caf57c07c4d8ed1f2bc813e8163512fe23217b16e9d212a"), looks := true }, kinds := [], alts := [], laidByText := true, laidKinds := [.data, .data, .data, .data, .sentinel, .sentinel, .pinned], laidTests := true, laidLooks := .later }
def PanesLinesUptoCardSaid : Prop := Claim7.holds Tryd.pinned (.plain (OpenSpec.upto panesLinesSpec)) panesLinesUptoCard

/-- THE SECOND FORM's CARD OF 'keepsakelaw18.PanesAlike'. -/
def panesAlikeUptoCard : Claim7 := { stood := { row := panesAlikeUptoRow, standIns := [], harness := (true, "aef4cbc355a0a0250caf57c07c4d8ed1f2bc813e8163512fe23217b16e9d212a"), looks := true }, kinds := [], alts := [], laidByText := true, laidKinds := [.data, .data, .data, .data, .sentinel, .sentinel, .pinned], laidTests := true, laidLooks := .later }
def PanesAlikeUptoCardSaid : Prop := Claim7.holds Tryd.pinned (.plain (OpenSpec.upto panesAlikeSpec)) panesAlikeUptoCard
end Rows
end Go.Proofs.YtkjnbafdmjakgaaDoor
