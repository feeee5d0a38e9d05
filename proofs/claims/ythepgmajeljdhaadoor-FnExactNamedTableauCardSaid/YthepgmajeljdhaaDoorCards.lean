/-
  DERIVED. GIVEN WITH THE SEED: THE CARDS: each row of YthepgmajeljdhaaDoorRows.lean that lists a variable, with what it lists TIED to the program's text (the seventh form; the later family's looks); each row that meets fmt, with fmt's text TOLD by the authors' own Lean function (tested against real Go, not proved from fmt's source: count such statements apart). THE CARD IS WHAT COUNTS. Prove the row's statement (the work); the ties are given (YthepgmajeljdhaaDoorTie.lean); close each card by the builder's one call (the guide's Derived/Test/ToyasCard.lean, 'card_holds'). Laid BY PROGRAM, IN A SANDBOX (cutbox-door.mjs). By AI agents, Wed Nov 11 2026. No macro, syntax, notation, axiom, sorry.
-/
import Derived.Test.YthepgmajeljdhaaDoorRows
import GoSem.ClaimSeven
namespace Go.Proofs.YthepgmajeljdhaaDoor
namespace Rows

/-- THE TIED CARD OF 'laws.FnExactTableauText'. -/
def fnExactTableauTextCard : Claim7 := { stood := { row := fnExactTableauTextRow, standIns := [], harness := (true, "e389c5982de2e7c28d49d5d7081148deeb6404a7a1a79b53e9d84d92f305b5be"), looks := true }, kinds := [], alts := [], laidByText := true, laidKinds := [.data, .data, .data], laidTests := true, laidLooks := .later }
def FnExactTableauTextCardSaid : Prop := Claim7.holds Tryd.pinned (.plain (OpenSpec.ofChange fnExactTableauTextSpec)) fnExactTableauTextCard

/-- THE TIED CARD OF 'laws.FnExactParseTableau'. -/
def fnExactParseTableauCard : Claim7 := { stood := { row := fnExactParseTableauRow, standIns := [], harness := (true, "e389c5982de2e7c28d49d5d7081148deeb6404a7a1a79b53e9d84d92f305b5be"), looks := true }, kinds := [], alts := [], laidByText := true, laidKinds := [.data, .data, .data, .data, .sentinel, .sentinel, .pinned], laidTests := true, laidLooks := .later }
def FnExactParseTableauCardSaid : Prop := Claim7.holds Tryd.pinned (.plain (OpenSpec.ofChange fnExactParseTableauSpec)) fnExactParseTableauCard

/-- THE TIED CARD OF 'laws.FnExactNamedTableau'. -/
def fnExactNamedTableauCard : Claim7 := { stood := { row := fnExactNamedTableauRow, standIns := [], harness := (true, "e389c5982de2e7c28d49d5d7081148deeb6404a7a1a79b53e9d84d92f305b5be"), looks := true }, kinds := [], alts := [], laidByText := true, laidKinds := [.data, .data, .data, .data, .sentinel, .sentinel, .pinned], laidTests := true, laidLooks := .later }
def FnExactNamedTableauCardSaid : Prop := Claim7.holds Tryd.pinned (.plain (OpenSpec.ofChange fnExactNamedTableauSpec)) fnExactNamedTableauCard

/-- THE SECOND FORM's CARD OF 'laws.FnExactTableauText'. -/
def fnExactTableauTextUptoCard : Claim7 := { stood := { row := fnExactTableauTextUptoRow, standIns := [], harness := (true, "e389c5982de2e7c28d49d5d7081148deeb6404a7a1a79b53e9d84d92f305b5be"), looks := true }, kinds := [], alts := [], laidByText := true, laidKinds := [.data, .data, .data], laidTests := true, laidLooks := .later }
def FnExactTableauTextUptoCardSaid : Prop := Claim7.holds Tryd.pinned (.plain (OpenSpec.upto fnExactTableauTextSpec)) fnExactTableauTextUptoCard

/-- THE SECOND FORM's CARD OF 'laws.FnExactParseTableau'. -/
def fnExactParseTableauUptoCard : Claim7 := { stood := { row := fnExactParseTableauUptoRow, standIns := [], harness := (true, "e389c5982de2e7c28d49d5d7081148deeb6404a7a1a79b53e9d84d92f305b5be"), looks := true }, kinds := [], alts := [], laidByText := true, laidKinds := [.data, .data, .data, .data, .sentinel, .sentinel, .pinned], laidTests := true, laidLooks := .later }
def FnExactParseTableauUptoCardSaid : Prop := Claim7.holds Tryd.pinned (.plain (OpenSpec.upto fnExactParseTableauSpec)) fnExactParseTableauUptoCard

/-- THE SECOND FORM's CARD OF 'laws.FnExactNamedTableau'. -/
def fnExactNamedTableauUptoCard : Claim7 := { stood := { row := fnExactNamedTableauUptoRow, standIns := [], harness := (true, "e389c5982de2e7c28d49d5d7081148deeb6404a7a1a79b53e9d84d92f305b5be"), looks := true }, kinds := [], alts := [], laidByText := true, laidKinds := [.data, .data, .data, .data, .sentinel, .sentinel, .pinned], laidTests := true, laidLooks := .later }
def FnExactNamedTableauUptoCardSaid : Prop := Claim7.holds Tryd.pinned (.plain (OpenSpec.upto fnExactNamedTableauSpec)) fnExactNamedTableauUptoCard
end Rows
end Go.Proofs.YthepgmajeljdhaaDoor
