/-
  No cell of these rows narrows 'for every input' (looked for: loops, veiled, ifaces, maps, wideKeys, modest, calm, conditions, laid).
  DERIVED. THE GIVEN ROWS OF THIS SEAT. 12 by the template 'for every input the law returns true; each argument reads behind the call as it read before'; 0 by the template 'total and deterministic' (their statements: YthdopepmndoamaaTotals.lean).
  GIVEN WITH THE SEED: the statements are not yours to turn. If you find one false, say at which input.
  Laid BY PROGRAM, IN A SANDBOX (cutbox-rows.mjs): the forced cells as the released guide's own fill.sh prints them over the translation fddaa23ea6d1471d… (all of the seat's roots in one cut). By AI agents, Wed Nov 11 2026. No macro, syntax, notation, axiom, sorry.
-/
import Derived.Test.YthdopepmndoamaaChecked
import GoSem.Claim
import GoSem.ClaimJoined
import GoSem.ClaimMapViews
import Derived.JoinedTies
import Derived.KernelRfl
namespace Go.Proofs.Ythdopepmndoamaa
/- THE CELL 'sum', in the pinned program and in every row, IS THE sha256 OF THE DUMP (.gsa) THAT YthdopepmndoamaaProg.lean LOADS. Nothing in Lean hashes anything: it is a label: what it is worth is what the hold of that sum in a sandbox is worth. -/
noncomputable def Try.pinned : Pinned := { name := "ythdopepmndoamaa", sum := "fddaa23ea6d1471d12e0ca33b0f7bf27ff9f5fa32fca5032992c05e59d8d481b", checked := Try.checked }
namespace Rows
def none {H : Type} : Left H := { results := [], args := [] }

/-- 'laws.FnExactTableauNames': WHATEVER THE INPUT: true; the input reads as it did. -/
def fnExactTableauNamesSpec : ChangeSpec := { name := "fnExactTableauNames", fn := fun _ => fun
  | [] => { results := [.lit (.bool true)], args := [] }
  | _ => none }
def fnExactTableauNamesRow : OpenClaim := { program := "ythdopepmndoamaa", sum := "fddaa23ea6d1471d12e0ca33b0f7bf27ff9f5fa32fca5032992c05e59d8d481b", func := "loop.example/g01100/laws.FnExactTableauNames", spec := "fnExactTableauNames", apart := false }
def FnExactTableauNamesSaid : Prop := fnExactTableauNamesRow.holds Try.pinned (OpenSpec.ofChange fnExactTableauNamesSpec)

/-- ITS FALSE NEIGHBOUR: 'it returns false'. Refute it at one input. -/
def fnExactTableauNamesWrong : ChangeSpec := { name := "fnExactTableauNames", fn := fun _ => fun
  | [] => { results := [.lit (.bool false)], args := [] }
  | _ => none }
def FnExactTableauNamesWrongFalsely : Prop := fnExactTableauNamesRow.holds Try.pinned (OpenSpec.ofChange fnExactTableauNamesWrong)

/-- 'laws.FnExactNeutralTableau': WHATEVER THE INPUT: true; the input reads as it did. -/
def fnExactNeutralTableauSpec : ChangeSpec := { name := "fnExactNeutralTableau", fn := fun _ => fun
  | [] => { results := [.lit (.bool true)], args := [] }
  | _ => none }
def fnExactNeutralTableauRow : OpenClaim := { program := "ythdopepmndoamaa", sum := "fddaa23ea6d1471d12e0ca33b0f7bf27ff9f5fa32fca5032992c05e59d8d481b", func := "loop.example/g01100/laws.FnExactNeutralTableau", spec := "fnExactNeutralTableau", apart := false }
def FnExactNeutralTableauSaid : Prop := fnExactNeutralTableauRow.holds Try.pinned (OpenSpec.ofChange fnExactNeutralTableauSpec)

/-- ITS FALSE NEIGHBOUR: 'it returns false'. Refute it at one input. -/
def fnExactNeutralTableauWrong : ChangeSpec := { name := "fnExactNeutralTableau", fn := fun _ => fun
  | [] => { results := [.lit (.bool false)], args := [] }
  | _ => none }
def FnExactNeutralTableauWrongFalsely : Prop := fnExactNeutralTableauRow.holds Try.pinned (OpenSpec.ofChange fnExactNeutralTableauWrong)

/-- 'laws.FnExactAddMaps': WHATEVER THE INPUT: true; the input reads as it did. -/
def fnExactAddMapsSpec : ChangeSpec := { name := "fnExactAddMaps", fn := fun _ => fun
  | [d1, d2] => { results := [.lit (.bool true)], args := [d1, d2] }
  | _ => none }
def fnExactAddMapsRow : OpenClaim := { program := "ythdopepmndoamaa", sum := "fddaa23ea6d1471d12e0ca33b0f7bf27ff9f5fa32fca5032992c05e59d8d481b", func := "loop.example/g01100/laws.FnExactAddMaps", spec := "fnExactAddMaps", unfollowed := true, recurses := true, apart := false }
def FnExactAddMapsSaid : Prop := fnExactAddMapsRow.holds Try.pinned (OpenSpec.ofChange fnExactAddMapsSpec)

/-- ITS FALSE NEIGHBOUR: 'it returns false'. Refute it at one input. -/
def fnExactAddMapsWrong : ChangeSpec := { name := "fnExactAddMaps", fn := fun _ => fun
  | [d1, d2] => { results := [.lit (.bool false)], args := [d1, d2] }
  | _ => none }
def FnExactAddMapsWrongFalsely : Prop := fnExactAddMapsRow.holds Try.pinned (OpenSpec.ofChange fnExactAddMapsWrong)

/-- 'laws.FnExactMultiplyMap': WHATEVER THE INPUT: true; the input reads as it did. -/
def fnExactMultiplyMapSpec : ChangeSpec := { name := "fnExactMultiplyMap", fn := fun _ => fun
  | [d1, d2] => { results := [.lit (.bool true)], args := [d1, d2] }
  | _ => none }
def fnExactMultiplyMapRow : OpenClaim := { program := "ythdopepmndoamaa", sum := "fddaa23ea6d1471d12e0ca33b0f7bf27ff9f5fa32fca5032992c05e59d8d481b", func := "loop.example/g01100/laws.FnExactMultiplyMap", spec := "fnExactMultiplyMap", unfollowed := true, recurses := true, apart := false }
def FnExactMultiplyMapSaid : Prop := fnExactMultiplyMapRow.holds Try.pinned (OpenSpec.ofChange fnExactMultiplyMapSpec)

/-- ITS FALSE NEIGHBOUR: 'it returns false'. Refute it at one input. -/
def fnExactMultiplyMapWrong : ChangeSpec := { name := "fnExactMultiplyMap", fn := fun _ => fun
  | [d1, d2] => { results := [.lit (.bool false)], args := [d1, d2] }
  | _ => none }
def FnExactMultiplyMapWrongFalsely : Prop := fnExactMultiplyMapRow.holds Try.pinned (OpenSpec.ofChange fnExactMultiplyMapWrong)

/-- 'laws.FnExactIsTableau': WHATEVER THE INPUT: true; the input reads as it did. -/
def fnExactIsTableauSpec : ChangeSpec := { name := "fnExactIsTableau", fn := fun _ => fun
  | [d] => { results := [.lit (.bool true)], args := [d] }
  | _ => none }
def fnExactIsTableauRow : OpenClaim := { program := "ythdopepmndoamaa", sum := "fddaa23ea6d1471d12e0ca33b0f7bf27ff9f5fa32fca5032992c05e59d8d481b", func := "loop.example/g01100/laws.FnExactIsTableau", spec := "fnExactIsTableau", unfollowed := true, recurses := true, apart := false }
def FnExactIsTableauSaid : Prop := fnExactIsTableauRow.holds Try.pinned (OpenSpec.ofChange fnExactIsTableauSpec)

/-- ITS FALSE NEIGHBOUR: 'it returns false'. Refute it at one input. -/
def fnExactIsTableauWrong : ChangeSpec := { name := "fnExactIsTableau", fn := fun _ => fun
  | [d] => { results := [.lit (.bool false)], args := [d] }
  | _ => none }
def FnExactIsTableauWrongFalsely : Prop := fnExactIsTableauRow.holds Try.pinned (OpenSpec.ofChange fnExactIsTableauWrong)

/-- 'laws.FnExactIsDiagonal': WHATEVER THE INPUT: true; the input reads as it did. -/
def fnExactIsDiagonalSpec : ChangeSpec := { name := "fnExactIsDiagonal", fn := fun _ => fun
  | [d] => { results := [.lit (.bool true)], args := [d] }
  | _ => none }
def fnExactIsDiagonalRow : OpenClaim := { program := "ythdopepmndoamaa", sum := "fddaa23ea6d1471d12e0ca33b0f7bf27ff9f5fa32fca5032992c05e59d8d481b", func := "loop.example/g01100/laws.FnExactIsDiagonal", spec := "fnExactIsDiagonal", unfollowed := true, recurses := true, apart := false }
def FnExactIsDiagonalSaid : Prop := fnExactIsDiagonalRow.holds Try.pinned (OpenSpec.ofChange fnExactIsDiagonalSpec)

/-- ITS FALSE NEIGHBOUR: 'it returns false'. Refute it at one input. -/
def fnExactIsDiagonalWrong : ChangeSpec := { name := "fnExactIsDiagonal", fn := fun _ => fun
  | [d] => { results := [.lit (.bool false)], args := [d] }
  | _ => none }
def FnExactIsDiagonalWrongFalsely : Prop := fnExactIsDiagonalRow.holds Try.pinned (OpenSpec.ofChange fnExactIsDiagonalWrong)

/-- 'laws.FnExactIsExplicit': WHATEVER THE INPUT: true; the input reads as it did. -/
def fnExactIsExplicitSpec : ChangeSpec := { name := "fnExactIsExplicit", fn := fun _ => fun
  | [d] => { results := [.lit (.bool true)], args := [d] }
  | _ => none }
def fnExactIsExplicitRow : OpenClaim := { program := "ythdopepmndoamaa", sum := "fddaa23ea6d1471d12e0ca33b0f7bf27ff9f5fa32fca5032992c05e59d8d481b", func := "loop.example/g01100/laws.FnExactIsExplicit", spec := "fnExactIsExplicit", unfollowed := true, recurses := true, apart := false }
def FnExactIsExplicitSaid : Prop := fnExactIsExplicitRow.holds Try.pinned (OpenSpec.ofChange fnExactIsExplicitSpec)

/-- ITS FALSE NEIGHBOUR: 'it returns false'. Refute it at one input. -/
def fnExactIsExplicitWrong : ChangeSpec := { name := "fnExactIsExplicit", fn := fun _ => fun
  | [d] => { results := [.lit (.bool false)], args := [d] }
  | _ => none }
def FnExactIsExplicitWrongFalsely : Prop := fnExactIsExplicitRow.holds Try.pinned (OpenSpec.ofChange fnExactIsExplicitWrong)

/-- 'laws.FnExactNodePolynomial': WHATEVER THE INPUT: true; the input reads as it did. -/
def fnExactNodePolynomialSpec : ChangeSpec := { name := "fnExactNodePolynomial", fn := fun _ => fun
  | [d] => { results := [.lit (.bool true)], args := [d] }
  | _ => none }
def fnExactNodePolynomialRow : OpenClaim := { program := "ythdopepmndoamaa", sum := "fddaa23ea6d1471d12e0ca33b0f7bf27ff9f5fa32fca5032992c05e59d8d481b", func := "loop.example/g01100/laws.FnExactNodePolynomial", spec := "fnExactNodePolynomial", unfollowed := true, recurses := true, apart := false }
def FnExactNodePolynomialSaid : Prop := fnExactNodePolynomialRow.holds Try.pinned (OpenSpec.ofChange fnExactNodePolynomialSpec)

/-- ITS FALSE NEIGHBOUR: 'it returns false'. Refute it at one input. -/
def fnExactNodePolynomialWrong : ChangeSpec := { name := "fnExactNodePolynomial", fn := fun _ => fun
  | [d] => { results := [.lit (.bool false)], args := [d] }
  | _ => none }
def FnExactNodePolynomialWrongFalsely : Prop := fnExactNodePolynomialRow.holds Try.pinned (OpenSpec.ofChange fnExactNodePolynomialWrong)

/-- 'laws.FnExactOrthogonalTo': WHATEVER THE INPUT: true; the input reads as it did. -/
def fnExactOrthogonalToSpec : ChangeSpec := { name := "fnExactOrthogonalTo", fn := fun _ => fun
  | [d] => { results := [.lit (.bool true)], args := [d] }
  | _ => none }
def fnExactOrthogonalToRow : OpenClaim := { program := "ythdopepmndoamaa", sum := "fddaa23ea6d1471d12e0ca33b0f7bf27ff9f5fa32fca5032992c05e59d8d481b", func := "loop.example/g01100/laws.FnExactOrthogonalTo", spec := "fnExactOrthogonalTo", unfollowed := true, recurses := true, apart := false }
def FnExactOrthogonalToSaid : Prop := fnExactOrthogonalToRow.holds Try.pinned (OpenSpec.ofChange fnExactOrthogonalToSpec)

/-- ITS FALSE NEIGHBOUR: 'it returns false'. Refute it at one input. -/
def fnExactOrthogonalToWrong : ChangeSpec := { name := "fnExactOrthogonalTo", fn := fun _ => fun
  | [d] => { results := [.lit (.bool false)], args := [d] }
  | _ => none }
def FnExactOrthogonalToWrongFalsely : Prop := fnExactOrthogonalToRow.holds Try.pinned (OpenSpec.ofChange fnExactOrthogonalToWrong)

/-- 'laws.FnExactNodesOf': WHATEVER THE INPUT: true; the input reads as it did. -/
def fnExactNodesOfSpec : ChangeSpec := { name := "fnExactNodesOf", fn := fun _ => fun
  | [d] => { results := [.lit (.bool true)], args := [d] }
  | _ => none }
def fnExactNodesOfRow : OpenClaim := { program := "ythdopepmndoamaa", sum := "fddaa23ea6d1471d12e0ca33b0f7bf27ff9f5fa32fca5032992c05e59d8d481b", func := "loop.example/g01100/laws.FnExactNodesOf", spec := "fnExactNodesOf", unfollowed := true, recurses := true, apart := false }
def FnExactNodesOfSaid : Prop := fnExactNodesOfRow.holds Try.pinned (OpenSpec.ofChange fnExactNodesOfSpec)

/-- ITS FALSE NEIGHBOUR: 'it returns false'. Refute it at one input. -/
def fnExactNodesOfWrong : ChangeSpec := { name := "fnExactNodesOf", fn := fun _ => fun
  | [d] => { results := [.lit (.bool false)], args := [d] }
  | _ => none }
def FnExactNodesOfWrongFalsely : Prop := fnExactNodesOfRow.holds Try.pinned (OpenSpec.ofChange fnExactNodesOfWrong)

/-- 'laws.FnExactInverseTableau': WHATEVER THE INPUT: true; the input reads as it did. -/
def fnExactInverseTableauSpec : ChangeSpec := { name := "fnExactInverseTableau", fn := fun _ => fun
  | [d] => { results := [.lit (.bool true)], args := [d] }
  | _ => none }
def fnExactInverseTableauRow : OpenClaim := { program := "ythdopepmndoamaa", sum := "fddaa23ea6d1471d12e0ca33b0f7bf27ff9f5fa32fca5032992c05e59d8d481b", func := "loop.example/g01100/laws.FnExactInverseTableau", spec := "fnExactInverseTableau", unfollowed := true, recurses := true, apart := false }
def FnExactInverseTableauSaid : Prop := fnExactInverseTableauRow.holds Try.pinned (OpenSpec.ofChange fnExactInverseTableauSpec)

/-- ITS FALSE NEIGHBOUR: 'it returns false'. Refute it at one input. -/
def fnExactInverseTableauWrong : ChangeSpec := { name := "fnExactInverseTableau", fn := fun _ => fun
  | [d] => { results := [.lit (.bool false)], args := [d] }
  | _ => none }
def FnExactInverseTableauWrongFalsely : Prop := fnExactInverseTableauRow.holds Try.pinned (OpenSpec.ofChange fnExactInverseTableauWrong)

/-- 'laws.FnExactComposeTableaus': WHATEVER THE INPUT: true; the input reads as it did. -/
def fnExactComposeTableausSpec : ChangeSpec := { name := "fnExactComposeTableaus", fn := fun _ => fun
  | [d1, d2] => { results := [.lit (.bool true)], args := [d1, d2] }
  | _ => none }
def fnExactComposeTableausRow : OpenClaim := { program := "ythdopepmndoamaa", sum := "fddaa23ea6d1471d12e0ca33b0f7bf27ff9f5fa32fca5032992c05e59d8d481b", func := "loop.example/g01100/laws.FnExactComposeTableaus", spec := "fnExactComposeTableaus", unfollowed := true, recurses := true, apart := false }
def FnExactComposeTableausSaid : Prop := fnExactComposeTableausRow.holds Try.pinned (OpenSpec.ofChange fnExactComposeTableausSpec)

/-- ITS FALSE NEIGHBOUR: 'it returns false'. Refute it at one input. -/
def fnExactComposeTableausWrong : ChangeSpec := { name := "fnExactComposeTableaus", fn := fun _ => fun
  | [d1, d2] => { results := [.lit (.bool false)], args := [d1, d2] }
  | _ => none }
def FnExactComposeTableausWrongFalsely : Prop := fnExactComposeTableausRow.holds Try.pinned (OpenSpec.ofChange fnExactComposeTableausWrong)

/- THE SECOND FORM. 'bulk': how many values and letters a reading holds, each counted each time it is reached (what is shared counts as often as it is met; a slice's spare places count too). A statement '..UptoSaid' is the law's where the arguments, and the package variables that the reading takes, are together of bulk at most 1048576: NARROWER than '..Said'. Prove '..Said' where nothing that the law and all that it calls make is longer than what came in: it says more and counts as full. Else prove '..UptoSaid'. A law counts once. -/
mutual
def uptoBulk {H : Type} : DataW H → Nat
  | .lit (.string bytes) => bytes.length + 1
  | .lit _ => 1
  | .nil => 1
  | .ptr d => uptoBulk d + 1
  | .slice elems spare => uptoBulkAll elems + uptoBulkAll spare + 1
  | .agg parts => uptoBulkAll parts + 1
  | .iface _ d => uptoBulk d + 1
  | .map entries => uptoBulkEntries entries + 1
  | .held _ => 1
def uptoBulkAll {H : Type} : List (DataW H) → Nat
  | [] => 0
  | d :: r => uptoBulk d + uptoBulkAll r
def uptoBulkEntries {H : Type} : List (Lit × DataW H) → Nat
  | [] => 0
  | x :: r => uptoBulkEntry x + uptoBulkEntries r
def uptoBulkEntry {H : Type} : Lit × DataW H → Nat
  | (.string bytes, d) => bytes.length + uptoBulk d + 1
  | (_, d) => uptoBulk d + 1
 end
def uptoSmall : (H : Type) → List (DataW H) → Bool := fun _ ds => decide (uptoBulkAll ds ≤ 1048576)
def OpenSpec.upto (s : _root_.Go.ChangeSpec) : _root_.Go.OpenSpec := { _root_.Go.OpenSpec.ofChange s with cond := some uptoSmall }

/-- 'laws.FnExactTableauNames', WHERE WHAT IT READS IS OF BULK AT MOST 1048576: true; the input reads as it did. -/
def fnExactTableauNamesUptoRow : OpenClaim := { program := "ythdopepmndoamaa", sum := "fddaa23ea6d1471d12e0ca33b0f7bf27ff9f5fa32fca5032992c05e59d8d481b", func := "loop.example/g01100/laws.FnExactTableauNames", spec := "fnExactTableauNames", apart := false, narrowed := true }
def FnExactTableauNamesUptoSaid : Prop := fnExactTableauNamesUptoRow.holds Try.pinned (OpenSpec.upto fnExactTableauNamesSpec)

/-- 'laws.FnExactNeutralTableau', WHERE WHAT IT READS IS OF BULK AT MOST 1048576: true; the input reads as it did. -/
def fnExactNeutralTableauUptoRow : OpenClaim := { program := "ythdopepmndoamaa", sum := "fddaa23ea6d1471d12e0ca33b0f7bf27ff9f5fa32fca5032992c05e59d8d481b", func := "loop.example/g01100/laws.FnExactNeutralTableau", spec := "fnExactNeutralTableau", apart := false, narrowed := true }
def FnExactNeutralTableauUptoSaid : Prop := fnExactNeutralTableauUptoRow.holds Try.pinned (OpenSpec.upto fnExactNeutralTableauSpec)

/-- 'laws.FnExactAddMaps', WHERE WHAT IT READS IS OF BULK AT MOST 1048576: true; the input reads as it did. -/
def fnExactAddMapsUptoRow : OpenClaim := { program := "ythdopepmndoamaa", sum := "fddaa23ea6d1471d12e0ca33b0f7bf27ff9f5fa32fca5032992c05e59d8d481b", func := "loop.example/g01100/laws.FnExactAddMaps", spec := "fnExactAddMaps", unfollowed := true, recurses := true, apart := false, narrowed := true }
def FnExactAddMapsUptoSaid : Prop := fnExactAddMapsUptoRow.holds Try.pinned (OpenSpec.upto fnExactAddMapsSpec)

/-- 'laws.FnExactMultiplyMap', WHERE WHAT IT READS IS OF BULK AT MOST 1048576: true; the input reads as it did. -/
def fnExactMultiplyMapUptoRow : OpenClaim := { program := "ythdopepmndoamaa", sum := "fddaa23ea6d1471d12e0ca33b0f7bf27ff9f5fa32fca5032992c05e59d8d481b", func := "loop.example/g01100/laws.FnExactMultiplyMap", spec := "fnExactMultiplyMap", unfollowed := true, recurses := true, apart := false, narrowed := true }
def FnExactMultiplyMapUptoSaid : Prop := fnExactMultiplyMapUptoRow.holds Try.pinned (OpenSpec.upto fnExactMultiplyMapSpec)

/-- 'laws.FnExactIsTableau', WHERE WHAT IT READS IS OF BULK AT MOST 1048576: true; the input reads as it did. -/
def fnExactIsTableauUptoRow : OpenClaim := { program := "ythdopepmndoamaa", sum := "fddaa23ea6d1471d12e0ca33b0f7bf27ff9f5fa32fca5032992c05e59d8d481b", func := "loop.example/g01100/laws.FnExactIsTableau", spec := "fnExactIsTableau", unfollowed := true, recurses := true, apart := false, narrowed := true }
def FnExactIsTableauUptoSaid : Prop := fnExactIsTableauUptoRow.holds Try.pinned (OpenSpec.upto fnExactIsTableauSpec)

/-- 'laws.FnExactIsDiagonal', WHERE WHAT IT READS IS OF BULK AT MOST 1048576: true; the input reads as it did. -/
def fnExactIsDiagonalUptoRow : OpenClaim := { program := "ythdopepmndoamaa", sum := "fddaa23ea6d1471d12e0ca33b0f7bf27ff9f5fa32fca5032992c05e59d8d481b", func := "loop.example/g01100/laws.FnExactIsDiagonal", spec := "fnExactIsDiagonal", unfollowed := true, recurses := true, apart := false, narrowed := true }
def FnExactIsDiagonalUptoSaid : Prop := fnExactIsDiagonalUptoRow.holds Try.pinned (OpenSpec.upto fnExactIsDiagonalSpec)

/-- 'laws.FnExactIsExplicit', WHERE WHAT IT READS IS OF BULK AT MOST 1048576: true; the input reads as it did. -/
def fnExactIsExplicitUptoRow : OpenClaim := { program := "ythdopepmndoamaa", sum := "fddaa23ea6d1471d12e0ca33b0f7bf27ff9f5fa32fca5032992c05e59d8d481b", func := "loop.example/g01100/laws.FnExactIsExplicit", spec := "fnExactIsExplicit", unfollowed := true, recurses := true, apart := false, narrowed := true }
def FnExactIsExplicitUptoSaid : Prop := fnExactIsExplicitUptoRow.holds Try.pinned (OpenSpec.upto fnExactIsExplicitSpec)

/-- 'laws.FnExactNodePolynomial', WHERE WHAT IT READS IS OF BULK AT MOST 1048576: true; the input reads as it did. -/
def fnExactNodePolynomialUptoRow : OpenClaim := { program := "ythdopepmndoamaa", sum := "fddaa23ea6d1471d12e0ca33b0f7bf27ff9f5fa32fca5032992c05e59d8d481b", func := "loop.example/g01100/laws.FnExactNodePolynomial", spec := "fnExactNodePolynomial", unfollowed := true, recurses := true, apart := false, narrowed := true }
def FnExactNodePolynomialUptoSaid : Prop := fnExactNodePolynomialUptoRow.holds Try.pinned (OpenSpec.upto fnExactNodePolynomialSpec)

/-- 'laws.FnExactOrthogonalTo', WHERE WHAT IT READS IS OF BULK AT MOST 1048576: true; the input reads as it did. -/
def fnExactOrthogonalToUptoRow : OpenClaim := { program := "ythdopepmndoamaa", sum := "fddaa23ea6d1471d12e0ca33b0f7bf27ff9f5fa32fca5032992c05e59d8d481b", func := "loop.example/g01100/laws.FnExactOrthogonalTo", spec := "fnExactOrthogonalTo", unfollowed := true, recurses := true, apart := false, narrowed := true }
def FnExactOrthogonalToUptoSaid : Prop := fnExactOrthogonalToUptoRow.holds Try.pinned (OpenSpec.upto fnExactOrthogonalToSpec)

/-- 'laws.FnExactNodesOf', WHERE WHAT IT READS IS OF BULK AT MOST 1048576: true; the input reads as it did. -/
def fnExactNodesOfUptoRow : OpenClaim := { program := "ythdopepmndoamaa", sum := "fddaa23ea6d1471d12e0ca33b0f7bf27ff9f5fa32fca5032992c05e59d8d481b", func := "loop.example/g01100/laws.FnExactNodesOf", spec := "fnExactNodesOf", unfollowed := true, recurses := true, apart := false, narrowed := true }
def FnExactNodesOfUptoSaid : Prop := fnExactNodesOfUptoRow.holds Try.pinned (OpenSpec.upto fnExactNodesOfSpec)

/-- 'laws.FnExactInverseTableau', WHERE WHAT IT READS IS OF BULK AT MOST 1048576: true; the input reads as it did. -/
def fnExactInverseTableauUptoRow : OpenClaim := { program := "ythdopepmndoamaa", sum := "fddaa23ea6d1471d12e0ca33b0f7bf27ff9f5fa32fca5032992c05e59d8d481b", func := "loop.example/g01100/laws.FnExactInverseTableau", spec := "fnExactInverseTableau", unfollowed := true, recurses := true, apart := false, narrowed := true }
def FnExactInverseTableauUptoSaid : Prop := fnExactInverseTableauUptoRow.holds Try.pinned (OpenSpec.upto fnExactInverseTableauSpec)

/-- 'laws.FnExactComposeTableaus', WHERE WHAT IT READS IS OF BULK AT MOST 1048576: true; the input reads as it did. -/
def fnExactComposeTableausUptoRow : OpenClaim := { program := "ythdopepmndoamaa", sum := "fddaa23ea6d1471d12e0ca33b0f7bf27ff9f5fa32fca5032992c05e59d8d481b", func := "loop.example/g01100/laws.FnExactComposeTableaus", spec := "fnExactComposeTableaus", unfollowed := true, recurses := true, apart := false, narrowed := true }
def FnExactComposeTableausUptoSaid : Prop := fnExactComposeTableausUptoRow.holds Try.pinned (OpenSpec.upto fnExactComposeTableausSpec)

end Rows
end Go.Proofs.Ythdopepmndoamaa
