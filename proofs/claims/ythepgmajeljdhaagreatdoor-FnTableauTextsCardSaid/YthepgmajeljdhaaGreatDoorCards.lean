/-
  DERIVED. GIVEN WITH THE SEED: THE CARDS: each row of YthepgmajeljdhaaGreatDoorRows.lean that lists a variable, with what it lists TIED to the program's text (the seventh form; the later family's looks); each row that meets fmt, with fmt's text TOLD by the authors' own Lean function (tested against real Go, not proved from fmt's source: count such statements apart). THE CARD IS WHAT COUNTS. Prove the row's statement (the work); the ties are given (YthepgmajeljdhaaGreatDoorTie.lean); close each card by the builder's one call (the guide's Derived/Test/ToyasCard.lean, 'card_holds'). Laid BY PROGRAM, IN A SANDBOX (cutbox-door.mjs). By AI agents, Wed Nov 11 2026. No macro, syntax, notation, axiom, sorry.
-/
import Derived.Test.YthepgmajeljdhaaGreatDoorRows
import GoSem.ClaimSeven
namespace Go.Proofs.YthepgmajeljdhaaGreatDoor
namespace Rows

/-- THE TIED CARD OF 'laws.FnTableauTexts'. -/
def fnTableauTextsCard : Claim7 := { stood := { row := fnTableauTextsRow, standIns := [], harness := (true, "c05fd2f2cf8e12bdb49ade0a227938bb0da4d6b91b23649ce7c2d0de23355ac4"), looks := true }, kinds := [], alts := [], laidByText := true, laidKinds := [.data, .data, .data, .data, .sentinel, .sentinel, .pinned], laidTests := true, laidLooks := .later }
def FnTableauTextsCardSaid : Prop := Claim7.holds Tryz.pinned (.plain (OpenSpec.ofChange fnTableauTextsSpec)) fnTableauTextsCard

/-- THE TIED CARD OF 'laws.FnNamedTableaus'. -/
def fnNamedTableausCard : Claim7 := { stood := { row := fnNamedTableausRow, standIns := [], harness := (true, "c05fd2f2cf8e12bdb49ade0a227938bb0da4d6b91b23649ce7c2d0de23355ac4"), looks := true }, kinds := [], alts := [], laidByText := true, laidKinds := [.data, .data, .data, .data, .sentinel, .sentinel, .pinned], laidTests := true, laidLooks := .later }
def FnNamedTableausCardSaid : Prop := Claim7.holds Tryz.pinned (.plain (OpenSpec.ofChange fnNamedTableausSpec)) fnNamedTableausCard

/-- THE SECOND FORM's CARD OF 'laws.FnTableauTexts'. -/
def fnTableauTextsUptoCard : Claim7 := { stood := { row := fnTableauTextsUptoRow, standIns := [], harness := (true, "c05fd2f2cf8e12bdb49ade0a227938bb0da4d6b91b23649ce7c2d0de23355ac4"), looks := true }, kinds := [], alts := [], laidByText := true, laidKinds := [.data, .data, .data, .data, .sentinel, .sentinel, .pinned], laidTests := true, laidLooks := .later }
def FnTableauTextsUptoCardSaid : Prop := Claim7.holds Tryz.pinned (.plain (OpenSpec.upto fnTableauTextsSpec)) fnTableauTextsUptoCard

/-- THE SECOND FORM's CARD OF 'laws.FnNamedTableaus'. -/
def fnNamedTableausUptoCard : Claim7 := { stood := { row := fnNamedTableausUptoRow, standIns := [], harness := (true, "c05fd2f2cf8e12bdb49ade0a227938bb0da4d6b91b23649ce7c2d0de23355ac4"), looks := true }, kinds := [], alts := [], laidByText := true, laidKinds := [.data, .data, .data, .data, .sentinel, .sentinel, .pinned], laidTests := true, laidLooks := .later }
def FnNamedTableausUptoCardSaid : Prop := Claim7.holds Tryz.pinned (.plain (OpenSpec.upto fnNamedTableausSpec)) fnNamedTableausUptoCard
end Rows
end Go.Proofs.YthepgmajeljdhaaGreatDoor
