/-
  DERIVED. GIVEN WITH THE SEED: THE CARDS: each row of YtiehnigbcfkcdaaDoorRows.lean that lists a variable, with what it lists TIED to the program's text (the seventh form; the later family's looks); each row that meets fmt, with fmt's text TOLD by the authors' own Lean function (tested against real Go, not proved from fmt's source: count such statements apart). THE CARD IS WHAT COUNTS. Prove the row's statement (the work); the ties are given (YtiehnigbcfkcdaaDoorTie.lean); close each card by the builder's one call (the guide's Derived/Test/ToyasCard.lean, 'card_holds'). Laid BY PROGRAM, IN A SANDBOX (cutbox-door.mjs). By AI agents, Wed Nov 11 2026. No macro, syntax, notation, axiom, sorry.
-/
import Derived.Test.YtiehnigbcfkcdaaDoorRows
import GoSem.ClaimSeven
namespace Go.Proofs.YtiehnigbcfkcdaaDoor
namespace Rows

/-- THE TIED CARD OF 'keepsakelaw11.ConfigChecks'. -/
def configChecksCard : Claim7 := { stood := { row := configChecksRow, standIns := [], harness := (true, "7618eabbb1516532c9e1fdcf1d9fd0d36efecbc437fa768367363c348705a2eb"), looks := false }, kinds := [], alts := [], laidByText := true, laidKinds := [.data, .data, .data, .listed, .data], laidTests := true, laidLooks := .later }
def ConfigChecksCardSaid : Prop := Claim7.holds Tryd.pinned (.plain (OpenSpec.ofChange configChecksSpec)) configChecksCard

/-- THE TIED CARD OF 'keepsakelaw11.ConfigReads'. -/
def configReadsCard : Claim7 := { stood := { row := configReadsRow, standIns := [], harness := (true, "7618eabbb1516532c9e1fdcf1d9fd0d36efecbc437fa768367363c348705a2eb"), looks := false }, kinds := [], alts := [], laidByText := true, laidKinds := [.data, .data, .data, .listed, .data], laidTests := true, laidLooks := .later }
def ConfigReadsCardSaid : Prop := Claim7.holds Tryd.pinned (.plain (OpenSpec.ofChange configReadsSpec)) configReadsCard

/-- THE TIED CARD OF 'keepsakelaw11.ConfigNames'. -/
def configNamesCard : Claim7 := { stood := { row := configNamesRow, standIns := [], harness := (true, "7618eabbb1516532c9e1fdcf1d9fd0d36efecbc437fa768367363c348705a2eb"), looks := false }, kinds := [], alts := [], laidByText := true, laidKinds := [.data, .data, .data, .listed, .data], laidTests := true, laidLooks := .later }
def ConfigNamesCardSaid : Prop := Claim7.holds Tryd.pinned (.plain (OpenSpec.ofChange configNamesSpec)) configNamesCard

/-- THE TIED CARD OF 'keepsakelaw11.ConfigItems'. -/
def configItemsCard : Claim7 := { stood := { row := configItemsRow, standIns := [], harness := (true, "7618eabbb1516532c9e1fdcf1d9fd0d36efecbc437fa768367363c348705a2eb"), looks := false }, kinds := [], alts := [], laidByText := true, laidKinds := [.data, .data, .data, .listed, .data], laidTests := true, laidLooks := .later }
def ConfigItemsCardSaid : Prop := Claim7.holds Tryd.pinned (.plain (OpenSpec.ofChange configItemsSpec)) configItemsCard

/-- THE TIED CARD OF 'keepsakelaw11.ConfigKeys'. -/
def configKeysCard : Claim7 := { stood := { row := configKeysRow, standIns := [], harness := (true, "7618eabbb1516532c9e1fdcf1d9fd0d36efecbc437fa768367363c348705a2eb"), looks := false }, kinds := [], alts := [], laidByText := true, laidKinds := [.data, .data, .data, .listed, .data], laidTests := true, laidLooks := .later }
def ConfigKeysCardSaid : Prop := Claim7.holds Tryd.pinned (.plain (OpenSpec.ofChange configKeysSpec)) configKeysCard

/-- THE TIED CARD OF 'keepsakelaw11.ConfigStates'. -/
def configStatesCard : Claim7 := { stood := { row := configStatesRow, standIns := [], harness := (true, "7618eabbb1516532c9e1fdcf1d9fd0d36efecbc437fa768367363c348705a2eb"), looks := false }, kinds := [], alts := [], laidByText := true, laidKinds := [.data, .data, .data, .listed, .data], laidTests := true, laidLooks := .later }
def ConfigStatesCardSaid : Prop := Claim7.holds Tryd.pinned (.plain (OpenSpec.ofChange configStatesSpec)) configStatesCard

/-- THE SECOND FORM's CARD OF 'keepsakelaw11.ConfigChecks'. -/
def configChecksUptoCard : Claim7 := { stood := { row := configChecksUptoRow, standIns := [], harness := (true, "7618eabbb1516532c9e1fdcf1d9fd0d36efecbc437fa768367363c348705a2eb"), looks := false }, kinds := [], alts := [], laidByText := true, laidKinds := [.data, .data, .data, .listed, .data], laidTests := true, laidLooks := .later }
def ConfigChecksUptoCardSaid : Prop := Claim7.holds Tryd.pinned (.plain (OpenSpec.upto configChecksSpec)) configChecksUptoCard

/-- THE SECOND FORM's CARD OF 'keepsakelaw11.ConfigReads'. -/
def configReadsUptoCard : Claim7 := { stood := { row := configReadsUptoRow, standIns := [], harness := (true, "7618eabbb1516532c9e1fdcf1d9fd0d36efecbc437fa768367363c348705a2eb"), looks := false }, kinds := [], alts := [], laidByText := true, laidKinds := [.data, .data, .data, .listed, .data], laidTests := true, laidLooks := .later }
def ConfigReadsUptoCardSaid : Prop := Claim7.holds Tryd.pinned (.plain (OpenSpec.upto configReadsSpec)) configReadsUptoCard

/-- THE SECOND FORM's CARD OF 'keepsakelaw11.ConfigNames'. -/
def configNamesUptoCard : Claim7 := { stood := { row := configNamesUptoRow, standIns := [], harness := (true, "7618eabbb1516532c9e1fdcf1d9fd0d36efecbc437fa768367363c348705a2eb"), looks := false }, kinds := [], alts := [], laidByText := true, laidKinds := [.data, .data, .data, .listed, .data], laidTests := true, laidLooks := .later }
def ConfigNamesUptoCardSaid : Prop := Claim7.holds Tryd.pinned (.plain (OpenSpec.upto configNamesSpec)) configNamesUptoCard

/-- THE SECOND FORM's CARD OF 'keepsakelaw11.ConfigItems'. -/
def configItemsUptoCard : Claim7 := { stood := { row := configItemsUptoRow, standIns := [], harness := (true, "7618eabbb1516532c9e1fdcf1d9fd0d36efecbc437fa768367363c348705a2eb"), looks := false }, kinds := [], alts := [], laidByText := true, laidKinds := [.data, .data, .data, .listed, .data], laidTests := true, laidLooks := .later }
def ConfigItemsUptoCardSaid : Prop := Claim7.holds Tryd.pinned (.plain (OpenSpec.upto configItemsSpec)) configItemsUptoCard

/-- THE SECOND FORM's CARD OF 'keepsakelaw11.ConfigKeys'. -/
def configKeysUptoCard : Claim7 := { stood := { row := configKeysUptoRow, standIns := [], harness := (true, "7618eabbb1516532c9e1fdcf1d9fd0d36efecbc437fa768367363c348705a2eb"), looks := false }, kinds := [], alts := [], laidByText := true, laidKinds := [.data, .data, .data, .listed, .data], laidTests := true, laidLooks := .later }
def ConfigKeysUptoCardSaid : Prop := Claim7.holds Tryd.pinned (.plain (OpenSpec.upto configKeysSpec)) configKeysUptoCard

/-- THE SECOND FORM's CARD OF 'keepsakelaw11.ConfigStates'. -/
def configStatesUptoCard : Claim7 := { stood := { row := configStatesUptoRow, standIns := [], harness := (true, "7618eabbb1516532c9e1fdcf1d9fd0d36efecbc437fa768367363c348705a2eb"), looks := false }, kinds := [], alts := [], laidByText := true, laidKinds := [.data, .data, .data, .listed, .data], laidTests := true, laidLooks := .later }
def ConfigStatesUptoCardSaid : Prop := Claim7.holds Tryd.pinned (.plain (OpenSpec.upto configStatesSpec)) configStatesUptoCard
end Rows
end Go.Proofs.YtiehnigbcfkcdaaDoor
