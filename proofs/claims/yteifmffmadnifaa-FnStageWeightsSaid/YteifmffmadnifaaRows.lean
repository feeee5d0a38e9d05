/-
  No cell of these rows narrows 'for every input' (looked for: loops, veiled, ifaces, maps, wideKeys, modest, calm, conditions, laid).
  DERIVED. THE GIVEN ROWS OF THIS SEAT. 12 by the template 'for every input the law returns true; each argument reads behind the call as it read before'; 0 by the template 'total and deterministic' (their statements: YteifmffmadnifaaTotals.lean).
  GIVEN WITH THE SEED: the statements are not yours to turn. If you find one false, say at which input.
  Laid BY PROGRAM, IN A SANDBOX (cutbox-rows.mjs): the forced cells as the released guide's own fill.sh prints them over the translation 938308b736738764… (all of the seat's roots in one cut). By AI agents, Wed Nov 11 2026. No macro, syntax, notation, axiom, sorry.
-/
import Derived.Test.YteifmffmadnifaaChecked
import GoSem.Claim
import GoSem.ClaimJoined
import GoSem.ClaimMapViews
import Derived.JoinedTies
import Derived.KernelRfl
namespace Go.Proofs.Yteifmffmadnifaa
/- THE CELL 'sum', in the pinned program and in every row, IS THE sha256 OF THE DUMP (.gsa) THAT YteifmffmadnifaaProg.lean LOADS. Nothing in Lean hashes anything: it is a label: what it is worth is what the hold of that sum in a sandbox is worth. -/
noncomputable def Try.pinned : Pinned := { name := "yteifmffmadnifaa", sum := "938308b73673876490d7dcf7f6db5a83116db3e774a59e6449b81fbbdd70598f", checked := Try.checked }
namespace Rows
def none {H : Type} : Left H := { results := [], args := [] }

/-- 'laws.FnExactDropUnused': WHATEVER THE INPUT: true; the input reads as it did. -/
def fnExactDropUnusedSpec : ChangeSpec := { name := "fnExactDropUnused", fn := fun _ => fun
  | [d] => { results := [.lit (.bool true)], args := [d] }
  | _ => none }
def fnExactDropUnusedRow : OpenClaim := { program := "yteifmffmadnifaa", sum := "938308b73673876490d7dcf7f6db5a83116db3e774a59e6449b81fbbdd70598f", func := "loop.example/g01100/laws.FnExactDropUnused", spec := "fnExactDropUnused", unfollowed := true, recurses := true, apart := false }
def FnExactDropUnusedSaid : Prop := fnExactDropUnusedRow.holds Try.pinned (OpenSpec.ofChange fnExactDropUnusedSpec)

/-- ITS FALSE NEIGHBOUR: 'it returns false'. Refute it at one input. -/
def fnExactDropUnusedWrong : ChangeSpec := { name := "fnExactDropUnused", fn := fun _ => fun
  | [d] => { results := [.lit (.bool false)], args := [d] }
  | _ => none }
def FnExactDropUnusedWrongFalsely : Prop := fnExactDropUnusedRow.holds Try.pinned (OpenSpec.ofChange fnExactDropUnusedWrong)

/-- 'laws.FnExactFirstFault': WHATEVER THE INPUT: true; the input reads as it did. -/
def fnExactFirstFaultSpec : ChangeSpec := { name := "fnExactFirstFault", fn := fun _ => fun
  | [d1, d2] => { results := [.lit (.bool true)], args := [d1, d2] }
  | _ => none }
def fnExactFirstFaultRow : OpenClaim := { program := "yteifmffmadnifaa", sum := "938308b73673876490d7dcf7f6db5a83116db3e774a59e6449b81fbbdd70598f", func := "loop.example/g01100/laws.FnExactFirstFault", spec := "fnExactFirstFault", unfollowed := true, recurses := true, apart := false }
def FnExactFirstFaultSaid : Prop := fnExactFirstFaultRow.holds Try.pinned (OpenSpec.ofChange fnExactFirstFaultSpec)

/-- ITS FALSE NEIGHBOUR: 'it returns false'. Refute it at one input. -/
def fnExactFirstFaultWrong : ChangeSpec := { name := "fnExactFirstFault", fn := fun _ => fun
  | [d1, d2] => { results := [.lit (.bool false)], args := [d1, d2] }
  | _ => none }
def FnExactFirstFaultWrongFalsely : Prop := fnExactFirstFaultRow.holds Try.pinned (OpenSpec.ofChange fnExactFirstFaultWrong)

/-- 'laws.FnExactResidualsOf': WHATEVER THE INPUT: true; the input reads as it did. -/
def fnExactResidualsOfSpec : ChangeSpec := { name := "fnExactResidualsOf", fn := fun _ => fun
  | [d1, d2] => { results := [.lit (.bool true)], args := [d1, d2] }
  | _ => none }
def fnExactResidualsOfRow : OpenClaim := { program := "yteifmffmadnifaa", sum := "938308b73673876490d7dcf7f6db5a83116db3e774a59e6449b81fbbdd70598f", func := "loop.example/g01100/laws.FnExactResidualsOf", spec := "fnExactResidualsOf", unfollowed := true, recurses := true, apart := false }
def FnExactResidualsOfSaid : Prop := fnExactResidualsOfRow.holds Try.pinned (OpenSpec.ofChange fnExactResidualsOfSpec)

/-- ITS FALSE NEIGHBOUR: 'it returns false'. Refute it at one input. -/
def fnExactResidualsOfWrong : ChangeSpec := { name := "fnExactResidualsOf", fn := fun _ => fun
  | [d1, d2] => { results := [.lit (.bool false)], args := [d1, d2] }
  | _ => none }
def FnExactResidualsOfWrongFalsely : Prop := fnExactResidualsOfRow.holds Try.pinned (OpenSpec.ofChange fnExactResidualsOfWrong)

/-- 'laws.FnTableauOrders': WHATEVER THE INPUT: true; the input reads as it did. -/
def fnTableauOrdersSpec : ChangeSpec := { name := "fnTableauOrders", fn := fun _ => fun
  | [d] => { results := [.lit (.bool true)], args := [d] }
  | _ => none }
def fnTableauOrdersRow : OpenClaim := { program := "yteifmffmadnifaa", sum := "938308b73673876490d7dcf7f6db5a83116db3e774a59e6449b81fbbdd70598f", func := "loop.example/g01100/laws.FnTableauOrders", spec := "fnTableauOrders", unfollowed := true, recurses := true, apart := false }
def FnTableauOrdersSaid : Prop := fnTableauOrdersRow.holds Try.pinned (OpenSpec.ofChange fnTableauOrdersSpec)

/-- ITS FALSE NEIGHBOUR: 'it returns false'. Refute it at one input. -/
def fnTableauOrdersWrong : ChangeSpec := { name := "fnTableauOrders", fn := fun _ => fun
  | [d] => { results := [.lit (.bool false)], args := [d] }
  | _ => none }
def FnTableauOrdersWrongFalsely : Prop := fnTableauOrdersRow.holds Try.pinned (OpenSpec.ofChange fnTableauOrdersWrong)

/-- 'laws.FnExactPermuteStages': WHATEVER THE INPUT: true; the input reads as it did. -/
def fnExactPermuteStagesSpec : ChangeSpec := { name := "fnExactPermuteStages", fn := fun _ => fun
  | [d1, d2] => { results := [.lit (.bool true)], args := [d1, d2] }
  | _ => none }
def fnExactPermuteStagesRow : OpenClaim := { program := "yteifmffmadnifaa", sum := "938308b73673876490d7dcf7f6db5a83116db3e774a59e6449b81fbbdd70598f", func := "loop.example/g01100/laws.FnExactPermuteStages", spec := "fnExactPermuteStages", unfollowed := true, recurses := true, apart := false }
def FnExactPermuteStagesSaid : Prop := fnExactPermuteStagesRow.holds Try.pinned (OpenSpec.ofChange fnExactPermuteStagesSpec)

/-- ITS FALSE NEIGHBOUR: 'it returns false'. Refute it at one input. -/
def fnExactPermuteStagesWrong : ChangeSpec := { name := "fnExactPermuteStages", fn := fun _ => fun
  | [d1, d2] => { results := [.lit (.bool false)], args := [d1, d2] }
  | _ => none }
def FnExactPermuteStagesWrongFalsely : Prop := fnExactPermuteStagesRow.holds Try.pinned (OpenSpec.ofChange fnExactPermuteStagesWrong)

/-- 'laws.FnExactMergeStages': WHATEVER THE INPUT: true; the input reads as it did. -/
def fnExactMergeStagesSpec : ChangeSpec := { name := "fnExactMergeStages", fn := fun _ => fun
  | [d] => { results := [.lit (.bool true)], args := [d] }
  | _ => none }
def fnExactMergeStagesRow : OpenClaim := { program := "yteifmffmadnifaa", sum := "938308b73673876490d7dcf7f6db5a83116db3e774a59e6449b81fbbdd70598f", func := "loop.example/g01100/laws.FnExactMergeStages", spec := "fnExactMergeStages", unfollowed := true, recurses := true, apart := false }
def FnExactMergeStagesSaid : Prop := fnExactMergeStagesRow.holds Try.pinned (OpenSpec.ofChange fnExactMergeStagesSpec)

/-- ITS FALSE NEIGHBOUR: 'it returns false'. Refute it at one input. -/
def fnExactMergeStagesWrong : ChangeSpec := { name := "fnExactMergeStages", fn := fun _ => fun
  | [d] => { results := [.lit (.bool false)], args := [d] }
  | _ => none }
def FnExactMergeStagesWrongFalsely : Prop := fnExactMergeStagesRow.holds Try.pinned (OpenSpec.ofChange fnExactMergeStagesWrong)

/-- 'laws.FnExactIsReduced': WHATEVER THE INPUT: true; the input reads as it did. -/
def fnExactIsReducedSpec : ChangeSpec := { name := "fnExactIsReduced", fn := fun _ => fun
  | [d] => { results := [.lit (.bool true)], args := [d] }
  | _ => none }
def fnExactIsReducedRow : OpenClaim := { program := "yteifmffmadnifaa", sum := "938308b73673876490d7dcf7f6db5a83116db3e774a59e6449b81fbbdd70598f", func := "loop.example/g01100/laws.FnExactIsReduced", spec := "fnExactIsReduced", unfollowed := true, recurses := true, apart := false }
def FnExactIsReducedSaid : Prop := fnExactIsReducedRow.holds Try.pinned (OpenSpec.ofChange fnExactIsReducedSpec)

/-- ITS FALSE NEIGHBOUR: 'it returns false'. Refute it at one input. -/
def fnExactIsReducedWrong : ChangeSpec := { name := "fnExactIsReduced", fn := fun _ => fun
  | [d] => { results := [.lit (.bool false)], args := [d] }
  | _ => none }
def FnExactIsReducedWrongFalsely : Prop := fnExactIsReducedRow.holds Try.pinned (OpenSpec.ofChange fnExactIsReducedWrong)

/-- 'laws.FnExactReduceTableau': WHATEVER THE INPUT: true; the input reads as it did. -/
def fnExactReduceTableauSpec : ChangeSpec := { name := "fnExactReduceTableau", fn := fun _ => fun
  | [d] => { results := [.lit (.bool true)], args := [d] }
  | _ => none }
def fnExactReduceTableauRow : OpenClaim := { program := "yteifmffmadnifaa", sum := "938308b73673876490d7dcf7f6db5a83116db3e774a59e6449b81fbbdd70598f", func := "loop.example/g01100/laws.FnExactReduceTableau", spec := "fnExactReduceTableau", unfollowed := true, recurses := true, apart := false }
def FnExactReduceTableauSaid : Prop := fnExactReduceTableauRow.holds Try.pinned (OpenSpec.ofChange fnExactReduceTableauSpec)

/-- ITS FALSE NEIGHBOUR: 'it returns false'. Refute it at one input. -/
def fnExactReduceTableauWrong : ChangeSpec := { name := "fnExactReduceTableau", fn := fun _ => fun
  | [d] => { results := [.lit (.bool false)], args := [d] }
  | _ => none }
def FnExactReduceTableauWrongFalsely : Prop := fnExactReduceTableauRow.holds Try.pinned (OpenSpec.ofChange fnExactReduceTableauWrong)

/-- 'laws.FnExactAgreeTo': WHATEVER THE INPUT: true; the input reads as it did. -/
def fnExactAgreeToSpec : ChangeSpec := { name := "fnExactAgreeTo", fn := fun _ => fun
  | [d1, d2] => { results := [.lit (.bool true)], args := [d1, d2] }
  | _ => none }
def fnExactAgreeToRow : OpenClaim := { program := "yteifmffmadnifaa", sum := "938308b73673876490d7dcf7f6db5a83116db3e774a59e6449b81fbbdd70598f", func := "loop.example/g01100/laws.FnExactAgreeTo", spec := "fnExactAgreeTo", unfollowed := true, recurses := true, apart := false }
def FnExactAgreeToSaid : Prop := fnExactAgreeToRow.holds Try.pinned (OpenSpec.ofChange fnExactAgreeToSpec)

/-- ITS FALSE NEIGHBOUR: 'it returns false'. Refute it at one input. -/
def fnExactAgreeToWrong : ChangeSpec := { name := "fnExactAgreeTo", fn := fun _ => fun
  | [d1, d2] => { results := [.lit (.bool false)], args := [d1, d2] }
  | _ => none }
def FnExactAgreeToWrongFalsely : Prop := fnExactAgreeToRow.holds Try.pinned (OpenSpec.ofChange fnExactAgreeToWrong)

/-- 'laws.FnExactTruncateMap': WHATEVER THE INPUT: true; the input reads as it did. -/
def fnExactTruncateMapSpec : ChangeSpec := { name := "fnExactTruncateMap", fn := fun _ => fun
  | [d1, d2] => { results := [.lit (.bool true)], args := [d1, d2] }
  | _ => none }
def fnExactTruncateMapRow : OpenClaim := { program := "yteifmffmadnifaa", sum := "938308b73673876490d7dcf7f6db5a83116db3e774a59e6449b81fbbdd70598f", func := "loop.example/g01100/laws.FnExactTruncateMap", spec := "fnExactTruncateMap", unfollowed := true, recurses := true, apart := false }
def FnExactTruncateMapSaid : Prop := fnExactTruncateMapRow.holds Try.pinned (OpenSpec.ofChange fnExactTruncateMapSpec)

/-- ITS FALSE NEIGHBOUR: 'it returns false'. Refute it at one input. -/
def fnExactTruncateMapWrong : ChangeSpec := { name := "fnExactTruncateMap", fn := fun _ => fun
  | [d1, d2] => { results := [.lit (.bool false)], args := [d1, d2] }
  | _ => none }
def FnExactTruncateMapWrongFalsely : Prop := fnExactTruncateMapRow.holds Try.pinned (OpenSpec.ofChange fnExactTruncateMapWrong)

/-- 'laws.FnExactPartOfMap': WHATEVER THE INPUT: true; the input reads as it did. -/
def fnExactPartOfMapSpec : ChangeSpec := { name := "fnExactPartOfMap", fn := fun _ => fun
  | [d1, d2] => { results := [.lit (.bool true)], args := [d1, d2] }
  | _ => none }
def fnExactPartOfMapRow : OpenClaim := { program := "yteifmffmadnifaa", sum := "938308b73673876490d7dcf7f6db5a83116db3e774a59e6449b81fbbdd70598f", func := "loop.example/g01100/laws.FnExactPartOfMap", spec := "fnExactPartOfMap", unfollowed := true, recurses := true, apart := false }
def FnExactPartOfMapSaid : Prop := fnExactPartOfMapRow.holds Try.pinned (OpenSpec.ofChange fnExactPartOfMapSpec)

/-- ITS FALSE NEIGHBOUR: 'it returns false'. Refute it at one input. -/
def fnExactPartOfMapWrong : ChangeSpec := { name := "fnExactPartOfMap", fn := fun _ => fun
  | [d1, d2] => { results := [.lit (.bool false)], args := [d1, d2] }
  | _ => none }
def FnExactPartOfMapWrongFalsely : Prop := fnExactPartOfMapRow.holds Try.pinned (OpenSpec.ofChange fnExactPartOfMapWrong)

/-- 'laws.FnStageWeights': WHATEVER THE INPUT: true; the input reads as it did. -/
def fnStageWeightsSpec : ChangeSpec := { name := "fnStageWeights", fn := fun _ => fun
  | [d] => { results := [.lit (.bool true)], args := [d] }
  | _ => none }
def fnStageWeightsRow : OpenClaim := { program := "yteifmffmadnifaa", sum := "938308b73673876490d7dcf7f6db5a83116db3e774a59e6449b81fbbdd70598f", func := "loop.example/g01100/laws.FnStageWeights", spec := "fnStageWeights", unfollowed := true, recurses := true, apart := false }
def FnStageWeightsSaid : Prop := fnStageWeightsRow.holds Try.pinned (OpenSpec.ofChange fnStageWeightsSpec)

/-- ITS FALSE NEIGHBOUR: 'it returns false'. Refute it at one input. -/
def fnStageWeightsWrong : ChangeSpec := { name := "fnStageWeights", fn := fun _ => fun
  | [d] => { results := [.lit (.bool false)], args := [d] }
  | _ => none }
def FnStageWeightsWrongFalsely : Prop := fnStageWeightsRow.holds Try.pinned (OpenSpec.ofChange fnStageWeightsWrong)

/- THE SECOND FORM. 'bulk': how many values and letters a reading holds, each counted each time it is reached (what is shared counts as often as it is met; a slice's spare places count too). A statement '..UptoSaid' is the law's where the arguments, and the package variables that the reading takes, are together of bulk at most 1048576: NARROWER than '..Said'. Prove '..Said' where nothing that the law and all that it calls make is longer than what came in: it says more and counts as full. Else prove '..UptoSaid'. A law counts once. -/
mutual
def uptoBulk {H : Type} : DataW H → Nat
  | .lit (.string bytes) => bytes.length + 1
  | .lit _ => 1
  | .nil => 1
  | .ptr d => uptoBulk d + 1
  | .slice elems spare => uptoBulkAll elems + uptoBulkAll spare + 1
  | .agg parts => uptoBulkAll parts + 1
  | .iface _ d => uptoBulk d + 1
  | .map entries => uptoBulkEntries entries + 1
  | .held _ => 1
def uptoBulkAll {H : Type} : List (DataW H) → Nat
  | [] => 0
  | d :: r => uptoBulk d + uptoBulkAll r
def uptoBulkEntries {H : Type} : List (Lit × DataW H) → Nat
  | [] => 0
  | x :: r => uptoBulkEntry x + uptoBulkEntries r
def uptoBulkEntry {H : Type} : Lit × DataW H → Nat
  | (.string bytes, d) => bytes.length + uptoBulk d + 1
  | (_, d) => uptoBulk d + 1
 end
def uptoSmall : (H : Type) → List (DataW H) → Bool := fun _ ds => decide (uptoBulkAll ds ≤ 1048576)
def OpenSpec.upto (s : _root_.Go.ChangeSpec) : _root_.Go.OpenSpec := { _root_.Go.OpenSpec.ofChange s with cond := some uptoSmall }

/-- 'laws.FnExactDropUnused', WHERE WHAT IT READS IS OF BULK AT MOST 1048576: true; the input reads as it did. -/
def fnExactDropUnusedUptoRow : OpenClaim := { program := "yteifmffmadnifaa", sum := "938308b73673876490d7dcf7f6db5a83116db3e774a59e6449b81fbbdd70598f", func := "loop.example/g01100/laws.FnExactDropUnused", spec := "fnExactDropUnused", unfollowed := true, recurses := true, apart := false, narrowed := true }
def FnExactDropUnusedUptoSaid : Prop := fnExactDropUnusedUptoRow.holds Try.pinned (OpenSpec.upto fnExactDropUnusedSpec)

/-- 'laws.FnExactFirstFault', WHERE WHAT IT READS IS OF BULK AT MOST 1048576: true; the input reads as it did. -/
def fnExactFirstFaultUptoRow : OpenClaim := { program := "yteifmffmadnifaa", sum := "938308b73673876490d7dcf7f6db5a83116db3e774a59e6449b81fbbdd70598f", func := "loop.example/g01100/laws.FnExactFirstFault", spec := "fnExactFirstFault", unfollowed := true, recurses := true, apart := false, narrowed := true }
def FnExactFirstFaultUptoSaid : Prop := fnExactFirstFaultUptoRow.holds Try.pinned (OpenSpec.upto fnExactFirstFaultSpec)

/-- 'laws.FnExactResidualsOf', WHERE WHAT IT READS IS OF BULK AT MOST 1048576: true; the input reads as it did. -/
def fnExactResidualsOfUptoRow : OpenClaim := { program := "yteifmffmadnifaa", sum := "938308b73673876490d7dcf7f6db5a83116db3e774a59e6449b81fbbdd70598f", func := "loop.example/g01100/laws.FnExactResidualsOf", spec := "fnExactResidualsOf", unfollowed := true, recurses := true, apart := false, narrowed := true }
def FnExactResidualsOfUptoSaid : Prop := fnExactResidualsOfUptoRow.holds Try.pinned (OpenSpec.upto fnExactResidualsOfSpec)

/-- 'laws.FnTableauOrders', WHERE WHAT IT READS IS OF BULK AT MOST 1048576: true; the input reads as it did. -/
def fnTableauOrdersUptoRow : OpenClaim := { program := "yteifmffmadnifaa", sum := "938308b73673876490d7dcf7f6db5a83116db3e774a59e6449b81fbbdd70598f", func := "loop.example/g01100/laws.FnTableauOrders", spec := "fnTableauOrders", unfollowed := true, recurses := true, apart := false, narrowed := true }
def FnTableauOrdersUptoSaid : Prop := fnTableauOrdersUptoRow.holds Try.pinned (OpenSpec.upto fnTableauOrdersSpec)

/-- 'laws.FnExactPermuteStages', WHERE WHAT IT READS IS OF BULK AT MOST 1048576: true; the input reads as it did. -/
def fnExactPermuteStagesUptoRow : OpenClaim := { program := "yteifmffmadnifaa", sum := "938308b73673876490d7dcf7f6db5a83116db3e774a59e6449b81fbbdd70598f", func := "loop.example/g01100/laws.FnExactPermuteStages", spec := "fnExactPermuteStages", unfollowed := true, recurses := true, apart := false, narrowed := true }
def FnExactPermuteStagesUptoSaid : Prop := fnExactPermuteStagesUptoRow.holds Try.pinned (OpenSpec.upto fnExactPermuteStagesSpec)

/-- 'laws.FnExactMergeStages', WHERE WHAT IT READS IS OF BULK AT MOST 1048576: true; the input reads as it did. -/
def fnExactMergeStagesUptoRow : OpenClaim := { program := "yteifmffmadnifaa", sum := "938308b73673876490d7dcf7f6db5a83116db3e774a59e6449b81fbbdd70598f", func := "loop.example/g01100/laws.FnExactMergeStages", spec := "fnExactMergeStages", unfollowed := true, recurses := true, apart := false, narrowed := true }
def FnExactMergeStagesUptoSaid : Prop := fnExactMergeStagesUptoRow.holds Try.pinned (OpenSpec.upto fnExactMergeStagesSpec)

/-- 'laws.FnExactIsReduced', WHERE WHAT IT READS IS OF BULK AT MOST 1048576: true; the input reads as it did. -/
def fnExactIsReducedUptoRow : OpenClaim := { program := "yteifmffmadnifaa", sum := "938308b73673876490d7dcf7f6db5a83116db3e774a59e6449b81fbbdd70598f", func := "loop.example/g01100/laws.FnExactIsReduced", spec := "fnExactIsReduced", unfollowed := true, recurses := true, apart := false, narrowed := true }
def FnExactIsReducedUptoSaid : Prop := fnExactIsReducedUptoRow.holds Try.pinned (OpenSpec.upto fnExactIsReducedSpec)

/-- 'laws.FnExactReduceTableau', WHERE WHAT IT READS IS OF BULK AT MOST 1048576: true; the input reads as it did. -/
def fnExactReduceTableauUptoRow : OpenClaim := { program := "yteifmffmadnifaa", sum := "938308b73673876490d7dcf7f6db5a83116db3e774a59e6449b81fbbdd70598f", func := "loop.example/g01100/laws.FnExactReduceTableau", spec := "fnExactReduceTableau", unfollowed := true, recurses := true, apart := false, narrowed := true }
def FnExactReduceTableauUptoSaid : Prop := fnExactReduceTableauUptoRow.holds Try.pinned (OpenSpec.upto fnExactReduceTableauSpec)

/-- 'laws.FnExactAgreeTo', WHERE WHAT IT READS IS OF BULK AT MOST 1048576: true; the input reads as it did. -/
def fnExactAgreeToUptoRow : OpenClaim := { program := "yteifmffmadnifaa", sum := "938308b73673876490d7dcf7f6db5a83116db3e774a59e6449b81fbbdd70598f", func := "loop.example/g01100/laws.FnExactAgreeTo", spec := "fnExactAgreeTo", unfollowed := true, recurses := true, apart := false, narrowed := true }
def FnExactAgreeToUptoSaid : Prop := fnExactAgreeToUptoRow.holds Try.pinned (OpenSpec.upto fnExactAgreeToSpec)

/-- 'laws.FnExactTruncateMap', WHERE WHAT IT READS IS OF BULK AT MOST 1048576: true; the input reads as it did. -/
def fnExactTruncateMapUptoRow : OpenClaim := { program := "yteifmffmadnifaa", sum := "938308b73673876490d7dcf7f6db5a83116db3e774a59e6449b81fbbdd70598f", func := "loop.example/g01100/laws.FnExactTruncateMap", spec := "fnExactTruncateMap", unfollowed := true, recurses := true, apart := false, narrowed := true }
def FnExactTruncateMapUptoSaid : Prop := fnExactTruncateMapUptoRow.holds Try.pinned (OpenSpec.upto fnExactTruncateMapSpec)

/-- 'laws.FnExactPartOfMap', WHERE WHAT IT READS IS OF BULK AT MOST 1048576: true; the input reads as it did. -/
def fnExactPartOfMapUptoRow : OpenClaim := { program := "yteifmffmadnifaa", sum := "938308b73673876490d7dcf7f6db5a83116db3e774a59e6449b81fbbdd70598f", func := "loop.example/g01100/laws.FnExactPartOfMap", spec := "fnExactPartOfMap", unfollowed := true, recurses := true, apart := false, narrowed := true }
def FnExactPartOfMapUptoSaid : Prop := fnExactPartOfMapUptoRow.holds Try.pinned (OpenSpec.upto fnExactPartOfMapSpec)

/-- 'laws.FnStageWeights', WHERE WHAT IT READS IS OF BULK AT MOST 1048576: true; the input reads as it did. -/
def fnStageWeightsUptoRow : OpenClaim := { program := "yteifmffmadnifaa", sum := "938308b73673876490d7dcf7f6db5a83116db3e774a59e6449b81fbbdd70598f", func := "loop.example/g01100/laws.FnStageWeights", spec := "fnStageWeights", unfollowed := true, recurses := true, apart := false, narrowed := true }
def FnStageWeightsUptoSaid : Prop := fnStageWeightsUptoRow.holds Try.pinned (OpenSpec.upto fnStageWeightsSpec)

end Rows
end Go.Proofs.Yteifmffmadnifaa
