/-
  DERIVED. GIVEN WITH THE SEED: THE CARDS: each row of YthfpekhpeiebjaaGreatDoorRows.lean that lists a variable, with what it lists TIED to the program's text (the seventh form; the later family's looks); each row that meets fmt, with fmt's text TOLD by the authors' own Lean function (tested against real Go, not proved from fmt's source: count such statements apart). THE CARD IS WHAT COUNTS. Prove the row's statement (the work); the ties are given (YthfpekhpeiebjaaGreatDoorTie.lean); close each card by the builder's one call (the guide's Derived/Test/ToyasCard.lean, 'card_holds'). Laid BY PROGRAM, IN A SANDBOX (cutbox-door.mjs). By AI agents, Wed Nov 11 2026. No macro, syntax, notation, axiom, sorry.
-/
import Derived.Test.YthfpekhpeiebjaaGreatDoorRows
import GoSem.ClaimSeven
namespace Go.Proofs.YthfpekhpeiebjaaGreatDoor
namespace Rows

/-- THE TIED CARD OF 'keepsakelaw27.ScriptParse'. -/
def scriptParseCard : Claim7 := { stood := { row := scriptParseRow, standIns := [], harness := (true, "4bd21d43764c40992ddfb46900e543edde23cbdab50ce78556a30b9ba1f9e29f"), looks := true }, kinds := [], alts := [], laidByText := true, laidKinds := [.data, .data, .data, .data, .sentinel, .sentinel, .listed, .data, .pinned, .pinned], laidTests := true, laidLooks := .later }
def ScriptParseCardSaid : Prop := Claim7.holds Tryz.pinned (.plain (OpenSpec.ofChange scriptParseSpec)) scriptParseCard

/-- THE TIED CARD OF 'keepsakelaw27.ScriptBack'. -/
def scriptBackCard : Claim7 := { stood := { row := scriptBackRow, standIns := [], harness := (true, "4bd21d43764c40992ddfb46900e543edde23cbdab50ce78556a30b9ba1f9e29f"), looks := true }, kinds := [], alts := [], laidByText := true, laidKinds := [.data, .data, .data, .data, .sentinel, .sentinel, .listed, .data, .pinned, .pinned], laidTests := true, laidLooks := .later }
def ScriptBackCardSaid : Prop := Claim7.holds Tryz.pinned (.plain (OpenSpec.ofChange scriptBackSpec)) scriptBackCard

/-- THE TIED CARD OF 'keepsakelaw27.ScriptBoth'. -/
def scriptBothCard : Claim7 := { stood := { row := scriptBothRow, standIns := [], harness := (true, "4bd21d43764c40992ddfb46900e543edde23cbdab50ce78556a30b9ba1f9e29f"), looks := true }, kinds := [], alts := [], laidByText := true, laidKinds := [.data, .data, .data, .data, .sentinel, .sentinel, .listed, .data, .pinned, .pinned], laidTests := true, laidLooks := .later }
def ScriptBothCardSaid : Prop := Claim7.holds Tryz.pinned (.plain (OpenSpec.ofChange scriptBothSpec)) scriptBothCard

/-- THE TIED CARD OF 'keepsakelaw27.ScriptSpoil'. -/
def scriptSpoilCard : Claim7 := { stood := { row := scriptSpoilRow, standIns := [], harness := (true, "4bd21d43764c40992ddfb46900e543edde23cbdab50ce78556a30b9ba1f9e29f"), looks := true }, kinds := [], alts := [], laidByText := true, laidKinds := [.data, .data, .data, .data, .sentinel, .sentinel, .listed, .data, .pinned, .pinned], laidTests := true, laidLooks := .later }
def ScriptSpoilCardSaid : Prop := Claim7.holds Tryz.pinned (.plain (OpenSpec.ofChange scriptSpoilSpec)) scriptSpoilCard

/-- THE TIED CARD OF 'keepsakelaw27.ScriptText'. -/
def scriptTextCard : Claim7 := { stood := { row := scriptTextRow, standIns := [], harness := (true, "4bd21d43764c40992ddfb46900e543edde23cbdab50ce78556a30b9ba1f9e29f"), looks := true }, kinds := [], alts := [], laidByText := true, laidKinds := [.data, .data, .data, .data, .sentinel, .sentinel, .listed, .data, .pinned, .pinned], laidTests := true, laidLooks := .later }
def ScriptTextCardSaid : Prop := Claim7.holds Tryz.pinned (.plain (OpenSpec.ofChange scriptTextSpec)) scriptTextCard

/-- THE SECOND FORM's CARD OF 'keepsakelaw27.ScriptParse'. -/
def scriptParseUptoCard : Claim7 := { stood := { row := scriptParseUptoRow, standIns := [], harness := (true, "4bd21d43764c40992ddfb46900e543edde23cbdab50ce78556a30b9ba1f9e29f"), looks := true }, kinds := [], alts := [], laidByText := true, laidKinds := [.data, .data, .data, .data, .sentinel, .sentinel, .listed, .data, .pinned, .pinned], laidTests := true, laidLooks := .later }
def ScriptParseUptoCardSaid : Prop := Claim7.holds Tryz.pinned (.plain (OpenSpec.upto scriptParseSpec)) scriptParseUptoCard

/-- THE SECOND FORM's CARD OF 'keepsakelaw27.ScriptBack'. -/
def scriptBackUptoCard : Claim7 := { stood := { row := scriptBackUptoRow, standIns := [], harness := (true, "4bd21d43764c40992ddfb46900e543edde23cbdab50ce78556a30b9ba1f9e29f"), looks := true }, kinds := [], alts := [], laidByText := true, laidKinds := [.data, .data, .data, .data, .sentinel, .sentinel, .listed, .data, .pinned, .pinned], laidTests := true, laidLooks := .later }
def ScriptBackUptoCardSaid : Prop := Claim7.holds Tryz.pinned (.plain (OpenSpec.upto scriptBackSpec)) scriptBackUptoCard

/-- THE SECOND FORM's CARD OF 'keepsakelaw27.ScriptBoth'. -/
def scriptBothUptoCard : Claim7 := { stood := { row := scriptBothUptoRow, standIns := [], harness := (true, "4bd21d43764c40992ddfb46900e543edde23cbdab50ce78556a30b9ba1f9e29f"), looks := true }, kinds := [], alts := [], laidByText := true, laidKinds := [.data, .data, .data, .data, .sentinel, .sentinel, .listed, .data, .pinned, .pinned], laidTests := true, laidLooks := .later }
def ScriptBothUptoCardSaid : Prop := Claim7.holds Tryz.pinned (.plain (OpenSpec.upto scriptBothSpec)) scriptBothUptoCard

/-- THE SECOND FORM's CARD OF 'keepsakelaw27.ScriptSpoil'. -/
def scriptSpoilUptoCard : Claim7 := { stood := { row := scriptSpoilUptoRow, standIns := [], harness := (true, "4bd21d43764c40992ddfb46900e543edde23cbdab50ce78556a30b9ba1f9e29f"), looks := true }, kinds := [], alts := [], laidByText := true, laidKinds := [.data, .data, .data, .data, .sentinel, .sentinel, .listed, .data, .pinned, .pinned], laidTests := true, laidLooks := .later }
def ScriptSpoilUptoCardSaid : Prop := Claim7.holds Tryz.pinned (.plain (OpenSpec.upto scriptSpoilSpec)) scriptSpoilUptoCard

/-- THE SECOND FORM's CARD OF 'keepsakelaw27.ScriptText'. -/
def scriptTextUptoCard : Claim7 := { stood := { row := scriptTextUptoRow, standIns := [], harness := (true, "4bd21d43764c40992ddfb46900e543edde23cbdab50ce78556a30b9ba1f9e29f"), looks := true }, kinds := [], alts := [], laidByText := true, laidKinds := [.data, .data, .data, .data, .sentinel, .sentinel, .listed, .data, .pinned, .pinned], laidTests := true, laidLooks := .later }
def ScriptTextUptoCardSaid : Prop := Claim7.holds Tryz.pinned (.plain (OpenSpec.upto scriptTextSpec)) scriptTextUptoCard
end Rows
end Go.Proofs.YthfpekhpeiebjaaGreatDoor
