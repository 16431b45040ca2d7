/-
  DERIVED. GIVEN WITH THE SEED: THE CARDS: each row of YtiehnigbcfkcdaaGreatDoorRows.lean that lists a variable, with what it lists TIED to the program's text (the seventh form; the later family's looks); each row that meets fmt, with fmt's text TOLD by the authors' own Lean function (tested against real Go, not proved from fmt's source: count such statements apart). THE CARD IS WHAT COUNTS. Prove the row's statement (the work); the ties are given (YtiehnigbcfkcdaaGreatDoorTie.lean); close each card by the builder's one call (the guide's Derived/Test/ToyasCard.lean, 'card_holds'). Laid BY PROGRAM, IN A SANDBOX (cutbox-door.mjs). By AI agents, Wed Nov 11 2026. No macro, syntax, notation, axiom, sorry.
-/
import Derived.Test.YtiehnigbcfkcdaaGreatDoorRows
import GoSem.ClaimSeven
namespace Go.Proofs.YtiehnigbcfkcdaaGreatDoor
namespace Rows

/-- THE TIED CARD OF 'keepsakelaw11.ConfigParses'. -/
def configParsesCard : Claim7 := { stood := { row := configParsesRow, standIns := [], harness := (true, "bda4e1f4488b4a3ce128f2d1ef2ee4efae69ac7cfce939df5657a43461596d06"), looks := true }, kinds := [], alts := [], laidByText := true, laidKinds := [.data, .data, .data, .data, .sentinel, .sentinel, .listed, .data, .pinned], laidTests := true, laidLooks := .later }
def ConfigParsesCardSaid : Prop := Claim7.holds Tryz.pinned (.plain (OpenSpec.ofChange configParsesSpec)) configParsesCard

/-- THE TIED CARD OF 'keepsakelaw11.ConfigBytes'. -/
def configBytesCard : Claim7 := { stood := { row := configBytesRow, standIns := [], harness := (true, "bda4e1f4488b4a3ce128f2d1ef2ee4efae69ac7cfce939df5657a43461596d06"), looks := true }, kinds := [], alts := [], laidByText := true, laidKinds := [.data, .data, .data, .data, .sentinel, .sentinel, .data, .listed, .data, .pinned], laidTests := true, laidLooks := .later }
def ConfigBytesCardSaid : Prop := Claim7.holds Tryz.pinned (.plain (OpenSpec.ofChange configBytesSpec)) configBytesCard

/-- THE SECOND FORM's CARD OF 'keepsakelaw11.ConfigParses'. -/
def configParsesUptoCard : Claim7 := { stood := { row := configParsesUptoRow, standIns := [], harness := (true, "bda4e1f4488b4a3ce128f2d1ef2ee4efae69ac7cfce939df5657a43461596d06"), looks := true }, kinds := [], alts := [], laidByText := true, laidKinds := [.data, .data, .data, .data, .sentinel, .sentinel, .listed, .data, .pinned], laidTests := true, laidLooks := .later }
def ConfigParsesUptoCardSaid : Prop := Claim7.holds Tryz.pinned (.plain (OpenSpec.upto configParsesSpec)) configParsesUptoCard

/-- THE SECOND FORM's CARD OF 'keepsakelaw11.ConfigBytes'. -/
def configBytesUptoCard : Claim7 := { stood := { row := configBytesUptoRow, standIns := [], harness := (true, "bda4e1f4488b4a3ce128f2d1ef2ee4efae69ac7cfce939df5657a43461596d06"), looks := true }, kinds := [], alts := [], laidByText := true, laidKinds := [.data, .data, .data, .data, .sentinel, .sentinel, .data, .listed, .data, .pinned], laidTests := true, laidLooks := .later }
def ConfigBytesUptoCardSaid : Prop := Claim7.holds Tryz.pinned (.plain (OpenSpec.upto configBytesSpec)) configBytesUptoCard
end Rows
end Go.Proofs.YtiehnigbcfkcdaaGreatDoor
