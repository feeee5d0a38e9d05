/-
  No cell of these rows narrows 'for every input' (looked for: loops, veiled, ifaces, maps, wideKeys, modest, calm, conditions, laid).
  DERIVED. THE GIVEN ROWS OF THIS SEAT. 12 by the template 'for every input the law returns true; each argument reads behind the call as it read before'; 0 by the template 'total and deterministic' (their statements: YtgjpdjblchgfdaaTotals.lean).
  GIVEN WITH THE SEED: the statements are not yours to turn. If you find one false, say at which input.
  Laid BY PROGRAM, IN A SANDBOX (cutbox-rows.mjs): the forced cells as the released guide's own fill.sh prints them over the translation 6971395e4f8253f5… (all of the seat's roots in one cut). By AI agents, Wed Nov 11 2026. No macro, syntax, notation, axiom, sorry.
-/
import Derived.Test.YtgjpdjblchgfdaaChecked
import GoSem.Claim
import GoSem.ClaimJoined
import GoSem.ClaimMapViews
import Derived.JoinedTies
import Derived.KernelRfl
namespace Go.Proofs.Ytgjpdjblchgfdaa
/- THE CELL 'sum', in the pinned program and in every row, IS THE sha256 OF THE DUMP (.gsa) THAT YtgjpdjblchgfdaaProg.lean LOADS. Nothing in Lean hashes anything: it is a label: what it is worth is what the hold of that sum in a sandbox is worth. -/
noncomputable def Try.pinned : Pinned := { name := "ytgjpdjblchgfdaa", sum := "6971395e4f8253f50f792b2c38243ec2dcedf88df5e21af398e455eab091839c", checked := Try.checked }
namespace Rows
def none {H : Type} : Left H := { results := [], args := [] }

/-- 'laws.FnExactAlikeStages': WHATEVER THE INPUT: true; the input reads as it did. -/
def fnExactAlikeStagesSpec : ChangeSpec := { name := "fnExactAlikeStages", fn := fun _ => fun
  | [d] => { results := [.lit (.bool true)], args := [d] }
  | _ => none }
def fnExactAlikeStagesRow : OpenClaim := { program := "ytgjpdjblchgfdaa", sum := "6971395e4f8253f50f792b2c38243ec2dcedf88df5e21af398e455eab091839c", func := "loop.example/g01100/laws.FnExactAlikeStages", spec := "fnExactAlikeStages", unfollowed := true, recurses := true, apart := false }
def FnExactAlikeStagesSaid : Prop := fnExactAlikeStagesRow.holds Try.pinned (OpenSpec.ofChange fnExactAlikeStagesSpec)

/-- ITS FALSE NEIGHBOUR: 'it returns false'. Refute it at one input. -/
def fnExactAlikeStagesWrong : ChangeSpec := { name := "fnExactAlikeStages", fn := fun _ => fun
  | [d] => { results := [.lit (.bool false)], args := [d] }
  | _ => none }
def FnExactAlikeStagesWrongFalsely : Prop := fnExactAlikeStagesRow.holds Try.pinned (OpenSpec.ofChange fnExactAlikeStagesWrong)

/-- 'laws.FnExactStageOrder': WHATEVER THE INPUT: true; the input reads as it did. -/
def fnExactStageOrderSpec : ChangeSpec := { name := "fnExactStageOrder", fn := fun _ => fun
  | [d1, d2] => { results := [.lit (.bool true)], args := [d1, d2] }
  | _ => none }
def fnExactStageOrderRow : OpenClaim := { program := "ytgjpdjblchgfdaa", sum := "6971395e4f8253f50f792b2c38243ec2dcedf88df5e21af398e455eab091839c", func := "loop.example/g01100/laws.FnExactStageOrder", spec := "fnExactStageOrder", unfollowed := true, recurses := true, apart := false }
def FnExactStageOrderSaid : Prop := fnExactStageOrderRow.holds Try.pinned (OpenSpec.ofChange fnExactStageOrderSpec)

/-- ITS FALSE NEIGHBOUR: 'it returns false'. Refute it at one input. -/
def fnExactStageOrderWrong : ChangeSpec := { name := "fnExactStageOrder", fn := fun _ => fun
  | [d1, d2] => { results := [.lit (.bool false)], args := [d1, d2] }
  | _ => none }
def FnExactStageOrderWrongFalsely : Prop := fnExactStageOrderRow.holds Try.pinned (OpenSpec.ofChange fnExactStageOrderWrong)

/-- 'laws.FnExactDropUnused': WHATEVER THE INPUT: true; the input reads as it did. -/
def fnExactDropUnusedSpec : ChangeSpec := { name := "fnExactDropUnused", fn := fun _ => fun
  | [d] => { results := [.lit (.bool true)], args := [d] }
  | _ => none }
def fnExactDropUnusedRow : OpenClaim := { program := "ytgjpdjblchgfdaa", sum := "6971395e4f8253f50f792b2c38243ec2dcedf88df5e21af398e455eab091839c", func := "loop.example/g01100/laws.FnExactDropUnused", spec := "fnExactDropUnused", unfollowed := true, recurses := true, apart := false }
def FnExactDropUnusedSaid : Prop := fnExactDropUnusedRow.holds Try.pinned (OpenSpec.ofChange fnExactDropUnusedSpec)

/-- ITS FALSE NEIGHBOUR: 'it returns false'. Refute it at one input. -/
def fnExactDropUnusedWrong : ChangeSpec := { name := "fnExactDropUnused", fn := fun _ => fun
  | [d] => { results := [.lit (.bool false)], args := [d] }
  | _ => none }
def FnExactDropUnusedWrongFalsely : Prop := fnExactDropUnusedRow.holds Try.pinned (OpenSpec.ofChange fnExactDropUnusedWrong)

/-- 'laws.FnExactColumnOrder': WHATEVER THE INPUT: true; the input reads as it did. -/
def fnExactColumnOrderSpec : ChangeSpec := { name := "fnExactColumnOrder", fn := fun _ => fun
  | [d] => { results := [.lit (.bool true)], args := [d] }
  | _ => none }
def fnExactColumnOrderRow : OpenClaim := { program := "ytgjpdjblchgfdaa", sum := "6971395e4f8253f50f792b2c38243ec2dcedf88df5e21af398e455eab091839c", func := "loop.example/g01100/laws.FnExactColumnOrder", spec := "fnExactColumnOrder", unfollowed := true, recurses := true, apart := false }
def FnExactColumnOrderSaid : Prop := fnExactColumnOrderRow.holds Try.pinned (OpenSpec.ofChange fnExactColumnOrderSpec)

/-- ITS FALSE NEIGHBOUR: 'it returns false'. Refute it at one input. -/
def fnExactColumnOrderWrong : ChangeSpec := { name := "fnExactColumnOrder", fn := fun _ => fun
  | [d] => { results := [.lit (.bool false)], args := [d] }
  | _ => none }
def FnExactColumnOrderWrongFalsely : Prop := fnExactColumnOrderRow.holds Try.pinned (OpenSpec.ofChange fnExactColumnOrderWrong)

/-- 'laws.FnExactQuadratureOrder': WHATEVER THE INPUT: true; the input reads as it did. -/
def fnExactQuadratureOrderSpec : ChangeSpec := { name := "fnExactQuadratureOrder", fn := fun _ => fun
  | [d] => { results := [.lit (.bool true)], args := [d] }
  | _ => none }
def fnExactQuadratureOrderRow : OpenClaim := { program := "ytgjpdjblchgfdaa", sum := "6971395e4f8253f50f792b2c38243ec2dcedf88df5e21af398e455eab091839c", func := "loop.example/g01100/laws.FnExactQuadratureOrder", spec := "fnExactQuadratureOrder", unfollowed := true, recurses := true, apart := false }
def FnExactQuadratureOrderSaid : Prop := fnExactQuadratureOrderRow.holds Try.pinned (OpenSpec.ofChange fnExactQuadratureOrderSpec)

/-- ITS FALSE NEIGHBOUR: 'it returns false'. Refute it at one input. -/
def fnExactQuadratureOrderWrong : ChangeSpec := { name := "fnExactQuadratureOrder", fn := fun _ => fun
  | [d] => { results := [.lit (.bool false)], args := [d] }
  | _ => none }
def FnExactQuadratureOrderWrongFalsely : Prop := fnExactQuadratureOrderRow.holds Try.pinned (OpenSpec.ofChange fnExactQuadratureOrderWrong)

/-- 'laws.FnExactStageOrderOf': WHATEVER THE INPUT: true; the input reads as it did. -/
def fnExactStageOrderOfSpec : ChangeSpec := { name := "fnExactStageOrderOf", fn := fun _ => fun
  | [d] => { results := [.lit (.bool true)], args := [d] }
  | _ => none }
def fnExactStageOrderOfRow : OpenClaim := { program := "ytgjpdjblchgfdaa", sum := "6971395e4f8253f50f792b2c38243ec2dcedf88df5e21af398e455eab091839c", func := "loop.example/g01100/laws.FnExactStageOrderOf", spec := "fnExactStageOrderOf", unfollowed := true, recurses := true, apart := false }
def FnExactStageOrderOfSaid : Prop := fnExactStageOrderOfRow.holds Try.pinned (OpenSpec.ofChange fnExactStageOrderOfSpec)

/-- ITS FALSE NEIGHBOUR: 'it returns false'. Refute it at one input. -/
def fnExactStageOrderOfWrong : ChangeSpec := { name := "fnExactStageOrderOf", fn := fun _ => fun
  | [d] => { results := [.lit (.bool false)], args := [d] }
  | _ => none }
def FnExactStageOrderOfWrongFalsely : Prop := fnExactStageOrderOfRow.holds Try.pinned (OpenSpec.ofChange fnExactStageOrderOfWrong)

/-- 'laws.FnExactImpliedOrder': WHATEVER THE INPUT: true; the input reads as it did. -/
def fnExactImpliedOrderSpec : ChangeSpec := { name := "fnExactImpliedOrder", fn := fun _ => fun
  | [d] => { results := [.lit (.bool true)], args := [d] }
  | _ => none }
def fnExactImpliedOrderRow : OpenClaim := { program := "ytgjpdjblchgfdaa", sum := "6971395e4f8253f50f792b2c38243ec2dcedf88df5e21af398e455eab091839c", func := "loop.example/g01100/laws.FnExactImpliedOrder", spec := "fnExactImpliedOrder", unfollowed := true, recurses := true, apart := false }
def FnExactImpliedOrderSaid : Prop := fnExactImpliedOrderRow.holds Try.pinned (OpenSpec.ofChange fnExactImpliedOrderSpec)

/-- ITS FALSE NEIGHBOUR: 'it returns false'. Refute it at one input. -/
def fnExactImpliedOrderWrong : ChangeSpec := { name := "fnExactImpliedOrder", fn := fun _ => fun
  | [d] => { results := [.lit (.bool false)], args := [d] }
  | _ => none }
def FnExactImpliedOrderWrongFalsely : Prop := fnExactImpliedOrderRow.holds Try.pinned (OpenSpec.ofChange fnExactImpliedOrderWrong)

/-- 'laws.FnExactMeetsAssumption': WHATEVER THE INPUT: true; the input reads as it did. -/
def fnExactMeetsAssumptionSpec : ChangeSpec := { name := "fnExactMeetsAssumption", fn := fun _ => fun
  | [d1, d2, d3] => { results := [.lit (.bool true)], args := [d1, d2, d3] }
  | _ => none }
def fnExactMeetsAssumptionRow : OpenClaim := { program := "ytgjpdjblchgfdaa", sum := "6971395e4f8253f50f792b2c38243ec2dcedf88df5e21af398e455eab091839c", func := "loop.example/g01100/laws.FnExactMeetsAssumption", spec := "fnExactMeetsAssumption", unfollowed := true, recurses := true, apart := false }
def FnExactMeetsAssumptionSaid : Prop := fnExactMeetsAssumptionRow.holds Try.pinned (OpenSpec.ofChange fnExactMeetsAssumptionSpec)

/-- ITS FALSE NEIGHBOUR: 'it returns false'. Refute it at one input. -/
def fnExactMeetsAssumptionWrong : ChangeSpec := { name := "fnExactMeetsAssumption", fn := fun _ => fun
  | [d1, d2, d3] => { results := [.lit (.bool false)], args := [d1, d2, d3] }
  | _ => none }
def FnExactMeetsAssumptionWrongFalsely : Prop := fnExactMeetsAssumptionRow.holds Try.pinned (OpenSpec.ofChange fnExactMeetsAssumptionWrong)

/-- 'laws.FnExactWeightOf': WHATEVER THE INPUT: true; the input reads as it did. -/
def fnExactWeightOfSpec : ChangeSpec := { name := "fnExactWeightOf", fn := fun _ => fun
  | [d1, d2] => { results := [.lit (.bool true)], args := [d1, d2] }
  | _ => none }
def fnExactWeightOfRow : OpenClaim := { program := "ytgjpdjblchgfdaa", sum := "6971395e4f8253f50f792b2c38243ec2dcedf88df5e21af398e455eab091839c", func := "loop.example/g01100/laws.FnExactWeightOf", spec := "fnExactWeightOf", unfollowed := true, recurses := true, apart := false }
def FnExactWeightOfSaid : Prop := fnExactWeightOfRow.holds Try.pinned (OpenSpec.ofChange fnExactWeightOfSpec)

/-- ITS FALSE NEIGHBOUR: 'it returns false'. Refute it at one input. -/
def fnExactWeightOfWrong : ChangeSpec := { name := "fnExactWeightOf", fn := fun _ => fun
  | [d1, d2] => { results := [.lit (.bool false)], args := [d1, d2] }
  | _ => none }
def FnExactWeightOfWrongFalsely : Prop := fnExactWeightOfRow.holds Try.pinned (OpenSpec.ofChange fnExactWeightOfWrong)

/-- 'laws.FnExactStageWeights': WHATEVER THE INPUT: true; the input reads as it did. -/
def fnExactStageWeightsSpec : ChangeSpec := { name := "fnExactStageWeights", fn := fun _ => fun
  | [d1, d2] => { results := [.lit (.bool true)], args := [d1, d2] }
  | _ => none }
def fnExactStageWeightsRow : OpenClaim := { program := "ytgjpdjblchgfdaa", sum := "6971395e4f8253f50f792b2c38243ec2dcedf88df5e21af398e455eab091839c", func := "loop.example/g01100/laws.FnExactStageWeights", spec := "fnExactStageWeights", unfollowed := true, recurses := true, apart := false }
def FnExactStageWeightsSaid : Prop := fnExactStageWeightsRow.holds Try.pinned (OpenSpec.ofChange fnExactStageWeightsSpec)

/-- ITS FALSE NEIGHBOUR: 'it returns false'. Refute it at one input. -/
def fnExactStageWeightsWrong : ChangeSpec := { name := "fnExactStageWeights", fn := fun _ => fun
  | [d1, d2] => { results := [.lit (.bool false)], args := [d1, d2] }
  | _ => none }
def FnExactStageWeightsWrongFalsely : Prop := fnExactStageWeightsRow.holds Try.pinned (OpenSpec.ofChange fnExactStageWeightsWrong)

/-- 'laws.FnExactCharacterOf': WHATEVER THE INPUT: true; the input reads as it did. -/
def fnExactCharacterOfSpec : ChangeSpec := { name := "fnExactCharacterOf", fn := fun _ => fun
  | [d] => { results := [.lit (.bool true)], args := [d] }
  | _ => none }
def fnExactCharacterOfRow : OpenClaim := { program := "ytgjpdjblchgfdaa", sum := "6971395e4f8253f50f792b2c38243ec2dcedf88df5e21af398e455eab091839c", func := "loop.example/g01100/laws.FnExactCharacterOf", spec := "fnExactCharacterOf", unfollowed := true, recurses := true, apart := false }
def FnExactCharacterOfSaid : Prop := fnExactCharacterOfRow.holds Try.pinned (OpenSpec.ofChange fnExactCharacterOfSpec)

/-- ITS FALSE NEIGHBOUR: 'it returns false'. Refute it at one input. -/
def fnExactCharacterOfWrong : ChangeSpec := { name := "fnExactCharacterOf", fn := fun _ => fun
  | [d] => { results := [.lit (.bool false)], args := [d] }
  | _ => none }
def FnExactCharacterOfWrongFalsely : Prop := fnExactCharacterOfRow.holds Try.pinned (OpenSpec.ofChange fnExactCharacterOfWrong)

/-- 'laws.FnExactOrderOf': WHATEVER THE INPUT: true; the input reads as it did. -/
def fnExactOrderOfSpec : ChangeSpec := { name := "fnExactOrderOf", fn := fun _ => fun
  | [d] => { results := [.lit (.bool true)], args := [d] }
  | _ => none }
def fnExactOrderOfRow : OpenClaim := { program := "ytgjpdjblchgfdaa", sum := "6971395e4f8253f50f792b2c38243ec2dcedf88df5e21af398e455eab091839c", func := "loop.example/g01100/laws.FnExactOrderOf", spec := "fnExactOrderOf", unfollowed := true, recurses := true, apart := false }
def FnExactOrderOfSaid : Prop := fnExactOrderOfRow.holds Try.pinned (OpenSpec.ofChange fnExactOrderOfSpec)

/-- ITS FALSE NEIGHBOUR: 'it returns false'. Refute it at one input. -/
def fnExactOrderOfWrong : ChangeSpec := { name := "fnExactOrderOf", fn := fun _ => fun
  | [d] => { results := [.lit (.bool false)], args := [d] }
  | _ => none }
def FnExactOrderOfWrongFalsely : Prop := fnExactOrderOfRow.holds Try.pinned (OpenSpec.ofChange fnExactOrderOfWrong)

/- THE SECOND FORM. 'bulk': how many values and letters a reading holds, each counted each time it is reached (what is shared counts as often as it is met; a slice's spare places count too). A statement '..UptoSaid' is the law's where the arguments, and the package variables that the reading takes, are together of bulk at most 1048576: NARROWER than '..Said'. Prove '..Said' where nothing that the law and all that it calls make is longer than what came in: it says more and counts as full. Else prove '..UptoSaid'. A law counts once. -/
mutual
def uptoBulk {H : Type} : DataW H → Nat
  | .lit (.string bytes) => bytes.length + 1
  | .lit _ => 1
  | .nil => 1
  | .ptr d => uptoBulk d + 1
  | .slice elems spare => uptoBulkAll elems + uptoBulkAll spare + 1
  | .agg parts => uptoBulkAll parts + 1
  | .iface _ d => uptoBulk d + 1
  | .map entries => uptoBulkEntries entries + 1
  | .held _ => 1
def uptoBulkAll {H : Type} : List (DataW H) → Nat
  | [] => 0
  | d :: r => uptoBulk d + uptoBulkAll r
def uptoBulkEntries {H : Type} : List (Lit × DataW H) → Nat
  | [] => 0
  | x :: r => uptoBulkEntry x + uptoBulkEntries r
def uptoBulkEntry {H : Type} : Lit × DataW H → Nat
  | (.string bytes, d) => bytes.length + uptoBulk d + 1
  | (_, d) => uptoBulk d + 1
 end
def uptoSmall : (H : Type) → List (DataW H) → Bool := fun _ ds => decide (uptoBulkAll ds ≤ 1048576)
def OpenSpec.upto (s : _root_.Go.ChangeSpec) : _root_.Go.OpenSpec := { _root_.Go.OpenSpec.ofChange s with cond := some uptoSmall }

/-- 'laws.FnExactAlikeStages', WHERE WHAT IT READS IS OF BULK AT MOST 1048576: true; the input reads as it did. -/
def fnExactAlikeStagesUptoRow : OpenClaim := { program := "ytgjpdjblchgfdaa", sum := "6971395e4f8253f50f792b2c38243ec2dcedf88df5e21af398e455eab091839c", func := "loop.example/g01100/laws.FnExactAlikeStages", spec := "fnExactAlikeStages", unfollowed := true, recurses := true, apart := false, narrowed := true }
def FnExactAlikeStagesUptoSaid : Prop := fnExactAlikeStagesUptoRow.holds Try.pinned (OpenSpec.upto fnExactAlikeStagesSpec)

/-- 'laws.FnExactStageOrder', WHERE WHAT IT READS IS OF BULK AT MOST 1048576: true; the input reads as it did. -/
def fnExactStageOrderUptoRow : OpenClaim := { program := "ytgjpdjblchgfdaa", sum := "6971395e4f8253f50f792b2c38243ec2dcedf88df5e21af398e455eab091839c", func := "loop.example/g01100/laws.FnExactStageOrder", spec := "fnExactStageOrder", unfollowed := true, recurses := true, apart := false, narrowed := true }
def FnExactStageOrderUptoSaid : Prop := fnExactStageOrderUptoRow.holds Try.pinned (OpenSpec.upto fnExactStageOrderSpec)

/-- 'laws.FnExactDropUnused', WHERE WHAT IT READS IS OF BULK AT MOST 1048576: true; the input reads as it did. -/
def fnExactDropUnusedUptoRow : OpenClaim := { program := "ytgjpdjblchgfdaa", sum := "6971395e4f8253f50f792b2c38243ec2dcedf88df5e21af398e455eab091839c", func := "loop.example/g01100/laws.FnExactDropUnused", spec := "fnExactDropUnused", unfollowed := true, recurses := true, apart := false, narrowed := true }
def FnExactDropUnusedUptoSaid : Prop := fnExactDropUnusedUptoRow.holds Try.pinned (OpenSpec.upto fnExactDropUnusedSpec)

/-- 'laws.FnExactColumnOrder', WHERE WHAT IT READS IS OF BULK AT MOST 1048576: true; the input reads as it did. -/
def fnExactColumnOrderUptoRow : OpenClaim := { program := "ytgjpdjblchgfdaa", sum := "6971395e4f8253f50f792b2c38243ec2dcedf88df5e21af398e455eab091839c", func := "loop.example/g01100/laws.FnExactColumnOrder", spec := "fnExactColumnOrder", unfollowed := true, recurses := true, apart := false, narrowed := true }
def FnExactColumnOrderUptoSaid : Prop := fnExactColumnOrderUptoRow.holds Try.pinned (OpenSpec.upto fnExactColumnOrderSpec)

/-- 'laws.FnExactQuadratureOrder', WHERE WHAT IT READS IS OF BULK AT MOST 1048576: true; the input reads as it did. -/
def fnExactQuadratureOrderUptoRow : OpenClaim := { program := "ytgjpdjblchgfdaa", sum := "6971395e4f8253f50f792b2c38243ec2dcedf88df5e21af398e455eab091839c", func := "loop.example/g01100/laws.FnExactQuadratureOrder", spec := "fnExactQuadratureOrder", unfollowed := true, recurses := true, apart := false, narrowed := true }
def FnExactQuadratureOrderUptoSaid : Prop := fnExactQuadratureOrderUptoRow.holds Try.pinned (OpenSpec.upto fnExactQuadratureOrderSpec)

/-- 'laws.FnExactStageOrderOf', WHERE WHAT IT READS IS OF BULK AT MOST 1048576: true; the input reads as it did. -/
def fnExactStageOrderOfUptoRow : OpenClaim := { program := "ytgjpdjblchgfdaa", sum := "6971395e4f8253f50f792b2c38243ec2dcedf88df5e21af398e455eab091839c", func := "loop.example/g01100/laws.FnExactStageOrderOf", spec := "fnExactStageOrderOf", unfollowed := true, recurses := true, apart := false, narrowed := true }
def FnExactStageOrderOfUptoSaid : Prop := fnExactStageOrderOfUptoRow.holds Try.pinned (OpenSpec.upto fnExactStageOrderOfSpec)

/-- 'laws.FnExactImpliedOrder', WHERE WHAT IT READS IS OF BULK AT MOST 1048576: true; the input reads as it did. -/
def fnExactImpliedOrderUptoRow : OpenClaim := { program := "ytgjpdjblchgfdaa", sum := "6971395e4f8253f50f792b2c38243ec2dcedf88df5e21af398e455eab091839c", func := "loop.example/g01100/laws.FnExactImpliedOrder", spec := "fnExactImpliedOrder", unfollowed := true, recurses := true, apart := false, narrowed := true }
def FnExactImpliedOrderUptoSaid : Prop := fnExactImpliedOrderUptoRow.holds Try.pinned (OpenSpec.upto fnExactImpliedOrderSpec)

/-- 'laws.FnExactMeetsAssumption', WHERE WHAT IT READS IS OF BULK AT MOST 1048576: true; the input reads as it did. -/
def fnExactMeetsAssumptionUptoRow : OpenClaim := { program := "ytgjpdjblchgfdaa", sum := "6971395e4f8253f50f792b2c38243ec2dcedf88df5e21af398e455eab091839c", func := "loop.example/g01100/laws.FnExactMeetsAssumption", spec := "fnExactMeetsAssumption", unfollowed := true, recurses := true, apart := false, narrowed := true }
def FnExactMeetsAssumptionUptoSaid : Prop := fnExactMeetsAssumptionUptoRow.holds Try.pinned (OpenSpec.upto fnExactMeetsAssumptionSpec)

/-- 'laws.FnExactWeightOf', WHERE WHAT IT READS IS OF BULK AT MOST 1048576: true; the input reads as it did. -/
def fnExactWeightOfUptoRow : OpenClaim := { program := "ytgjpdjblchgfdaa", sum := "6971395e4f8253f50f792b2c38243ec2dcedf88df5e21af398e455eab091839c", func := "loop.example/g01100/laws.FnExactWeightOf", spec := "fnExactWeightOf", unfollowed := true, recurses := true, apart := false, narrowed := true }
def FnExactWeightOfUptoSaid : Prop := fnExactWeightOfUptoRow.holds Try.pinned (OpenSpec.upto fnExactWeightOfSpec)

/-- 'laws.FnExactStageWeights', WHERE WHAT IT READS IS OF BULK AT MOST 1048576: true; the input reads as it did. -/
def fnExactStageWeightsUptoRow : OpenClaim := { program := "ytgjpdjblchgfdaa", sum := "6971395e4f8253f50f792b2c38243ec2dcedf88df5e21af398e455eab091839c", func := "loop.example/g01100/laws.FnExactStageWeights", spec := "fnExactStageWeights", unfollowed := true, recurses := true, apart := false, narrowed := true }
def FnExactStageWeightsUptoSaid : Prop := fnExactStageWeightsUptoRow.holds Try.pinned (OpenSpec.upto fnExactStageWeightsSpec)

/-- 'laws.FnExactCharacterOf', WHERE WHAT IT READS IS OF BULK AT MOST 1048576: true; the input reads as it did. -/
def fnExactCharacterOfUptoRow : OpenClaim := { program := "ytgjpdjblchgfdaa", sum := "6971395e4f8253f50f792b2c38243ec2dcedf88df5e21af398e455eab091839c", func := "loop.example/g01100/laws.FnExactCharacterOf", spec := "fnExactCharacterOf", unfollowed := true, recurses := true, apart := false, narrowed := true }
def FnExactCharacterOfUptoSaid : Prop := fnExactCharacterOfUptoRow.holds Try.pinned (OpenSpec.upto fnExactCharacterOfSpec)

/-- 'laws.FnExactOrderOf', WHERE WHAT IT READS IS OF BULK AT MOST 1048576: true; the input reads as it did. -/
def fnExactOrderOfUptoRow : OpenClaim := { program := "ytgjpdjblchgfdaa", sum := "6971395e4f8253f50f792b2c38243ec2dcedf88df5e21af398e455eab091839c", func := "loop.example/g01100/laws.FnExactOrderOf", spec := "fnExactOrderOf", unfollowed := true, recurses := true, apart := false, narrowed := true }
def FnExactOrderOfUptoSaid : Prop := fnExactOrderOfUptoRow.holds Try.pinned (OpenSpec.upto fnExactOrderOfSpec)

end Rows
end Go.Proofs.Ytgjpdjblchgfdaa
