/-
  No cell of these rows narrows 'for every input' (looked for: loops, veiled, ifaces, maps, wideKeys, modest, calm, conditions, laid).
  DERIVED. THE GIVEN ROWS OF THIS SEAT. 14 by the template 'for every input the law returns true; each argument reads behind the call as it read before'; 0 by the template 'total and deterministic' (their statements: YtncilhecdihmeaaGreatTotals.lean).
  GIVEN WITH THE SEED: the statements are not yours to turn. If you find one false, say at which input.
  Laid BY PROGRAM, IN A SANDBOX (cutbox-rows.mjs): the forced cells as the released guide's own fill.sh prints them over the translation f941703a1ec02c08… (all of the seat's roots in one cut). By AI agents, Wed Nov 11 2026. No macro, syntax, notation, axiom, sorry.
-/
import Derived.Test.YtncilhecdihmeaaGreatChecked
import GoSem.Claim
import GoSem.ClaimJoined
import GoSem.ClaimMapViews
import Derived.JoinedTies
import Derived.KernelRfl
namespace Go.Proofs.YtncilhecdihmeaaGreat
/- THE CELL 'sum', in the pinned program and in every row, IS THE sha256 OF THE DUMP (.gsa) THAT YtncilhecdihmeaaGreatProg.lean LOADS. Nothing in Lean hashes anything: it is a label: what it is worth is what the hold of that sum in a sandbox is worth. -/
noncomputable def Tryz.pinned : Pinned := { name := "ytncilhecdihmeaagreat", sum := "f941703a1ec02c08d83e3654a5069db249e5183543bb7ef60ee932bfee788b1c", checked := Tryz.checked }
namespace Rows
def none {H : Type} : Left H := { results := [], args := [] }

/-- 'laws.FnExactOrderOfMap': WHATEVER THE INPUT: true; the input reads as it did. -/
def fnExactOrderOfMapSpec : ChangeSpec := { name := "fnExactOrderOfMap", fn := fun _ => fun
  | [d] => { results := [.lit (.bool true)], args := [d] }
  | _ => none }
def fnExactOrderOfMapRow : OpenClaim := { program := "ytncilhecdihmeaagreat", sum := "f941703a1ec02c08d83e3654a5069db249e5183543bb7ef60ee932bfee788b1c", func := "loop.example/g01100/laws.FnExactOrderOfMap", spec := "fnExactOrderOfMap", unfollowed := true, recurses := true, apart := false }
def FnExactOrderOfMapSaid : Prop := fnExactOrderOfMapRow.holds Tryz.pinned (OpenSpec.ofChange fnExactOrderOfMapSpec)

/-- ITS FALSE NEIGHBOUR: 'it returns false'. Refute it at one input. -/
def fnExactOrderOfMapWrong : ChangeSpec := { name := "fnExactOrderOfMap", fn := fun _ => fun
  | [d] => { results := [.lit (.bool false)], args := [d] }
  | _ => none }
def FnExactOrderOfMapWrongFalsely : Prop := fnExactOrderOfMapRow.holds Tryz.pinned (OpenSpec.ofChange fnExactOrderOfMapWrong)

/-- 'laws.FnMapOrders': WHATEVER THE INPUT: true; the input reads as it did. -/
def fnMapOrdersSpec : ChangeSpec := { name := "fnMapOrders", fn := fun _ => fun
  | [d] => { results := [.lit (.bool true)], args := [d] }
  | _ => none }
def fnMapOrdersRow : OpenClaim := { program := "ytncilhecdihmeaagreat", sum := "f941703a1ec02c08d83e3654a5069db249e5183543bb7ef60ee932bfee788b1c", func := "loop.example/g01100/laws.FnMapOrders", spec := "fnMapOrders", unfollowed := true, recurses := true, apart := false }
def FnMapOrdersSaid : Prop := fnMapOrdersRow.holds Tryz.pinned (OpenSpec.ofChange fnMapOrdersSpec)

/-- ITS FALSE NEIGHBOUR: 'it returns false'. Refute it at one input. -/
def fnMapOrdersWrong : ChangeSpec := { name := "fnMapOrders", fn := fun _ => fun
  | [d] => { results := [.lit (.bool false)], args := [d] }
  | _ => none }
def FnMapOrdersWrongFalsely : Prop := fnMapOrdersRow.holds Tryz.pinned (OpenSpec.ofChange fnMapOrdersWrong)

/-- 'laws.FnExactActOn': WHATEVER THE INPUT: true; the input reads as it did. -/
def fnExactActOnSpec : ChangeSpec := { name := "fnExactActOn", fn := fun _ => fun
  | [d1, d2] => { results := [.lit (.bool true)], args := [d1, d2] }
  | _ => none }
def fnExactActOnRow : OpenClaim := { program := "ytncilhecdihmeaagreat", sum := "f941703a1ec02c08d83e3654a5069db249e5183543bb7ef60ee932bfee788b1c", func := "loop.example/g01100/laws.FnExactActOn", spec := "fnExactActOn", unfollowed := true, recurses := true, apart := false }
def FnExactActOnSaid : Prop := fnExactActOnRow.holds Tryz.pinned (OpenSpec.ofChange fnExactActOnSpec)

/-- ITS FALSE NEIGHBOUR: 'it returns false'. Refute it at one input. -/
def fnExactActOnWrong : ChangeSpec := { name := "fnExactActOn", fn := fun _ => fun
  | [d1, d2] => { results := [.lit (.bool false)], args := [d1, d2] }
  | _ => none }
def FnExactActOnWrongFalsely : Prop := fnExactActOnRow.holds Tryz.pinned (OpenSpec.ofChange fnExactActOnWrong)

/-- 'laws.FnExactBracketOf': WHATEVER THE INPUT: true; the input reads as it did. -/
def fnExactBracketOfSpec : ChangeSpec := { name := "fnExactBracketOf", fn := fun _ => fun
  | [d1, d2] => { results := [.lit (.bool true)], args := [d1, d2] }
  | _ => none }
def fnExactBracketOfRow : OpenClaim := { program := "ytncilhecdihmeaagreat", sum := "f941703a1ec02c08d83e3654a5069db249e5183543bb7ef60ee932bfee788b1c", func := "loop.example/g01100/laws.FnExactBracketOf", spec := "fnExactBracketOf", unfollowed := true, recurses := true, apart := false }
def FnExactBracketOfSaid : Prop := fnExactBracketOfRow.holds Tryz.pinned (OpenSpec.ofChange fnExactBracketOfSpec)

/-- ITS FALSE NEIGHBOUR: 'it returns false'. Refute it at one input. -/
def fnExactBracketOfWrong : ChangeSpec := { name := "fnExactBracketOf", fn := fun _ => fun
  | [d1, d2] => { results := [.lit (.bool false)], args := [d1, d2] }
  | _ => none }
def FnExactBracketOfWrongFalsely : Prop := fnExactBracketOfRow.holds Tryz.pinned (OpenSpec.ofChange fnExactBracketOfWrong)

/-- 'laws.FnExactExpMap': WHATEVER THE INPUT: true; the input reads as it did. -/
def fnExactExpMapSpec : ChangeSpec := { name := "fnExactExpMap", fn := fun _ => fun
  | [d] => { results := [.lit (.bool true)], args := [d] }
  | _ => none }
def fnExactExpMapRow : OpenClaim := { program := "ytncilhecdihmeaagreat", sum := "f941703a1ec02c08d83e3654a5069db249e5183543bb7ef60ee932bfee788b1c", func := "loop.example/g01100/laws.FnExactExpMap", spec := "fnExactExpMap", unfollowed := true, recurses := true, apart := false }
def FnExactExpMapSaid : Prop := fnExactExpMapRow.holds Tryz.pinned (OpenSpec.ofChange fnExactExpMapSpec)

/-- ITS FALSE NEIGHBOUR: 'it returns false'. Refute it at one input. -/
def fnExactExpMapWrong : ChangeSpec := { name := "fnExactExpMap", fn := fun _ => fun
  | [d] => { results := [.lit (.bool false)], args := [d] }
  | _ => none }
def FnExactExpMapWrongFalsely : Prop := fnExactExpMapRow.holds Tryz.pinned (OpenSpec.ofChange fnExactExpMapWrong)

/-- 'laws.FnExactFlowMap': WHATEVER THE INPUT: true; the input reads as it did. -/
def fnExactFlowMapSpec : ChangeSpec := { name := "fnExactFlowMap", fn := fun _ => fun
  | [d1, d2] => { results := [.lit (.bool true)], args := [d1, d2] }
  | _ => none }
def fnExactFlowMapRow : OpenClaim := { program := "ytncilhecdihmeaagreat", sum := "f941703a1ec02c08d83e3654a5069db249e5183543bb7ef60ee932bfee788b1c", func := "loop.example/g01100/laws.FnExactFlowMap", spec := "fnExactFlowMap", unfollowed := true, recurses := true, apart := false }
def FnExactFlowMapSaid : Prop := fnExactFlowMapRow.holds Tryz.pinned (OpenSpec.ofChange fnExactFlowMapSpec)

/-- ITS FALSE NEIGHBOUR: 'it returns false'. Refute it at one input. -/
def fnExactFlowMapWrong : ChangeSpec := { name := "fnExactFlowMap", fn := fun _ => fun
  | [d1, d2] => { results := [.lit (.bool false)], args := [d1, d2] }
  | _ => none }
def FnExactFlowMapWrongFalsely : Prop := fnExactFlowMapRow.holds Tryz.pinned (OpenSpec.ofChange fnExactFlowMapWrong)

/-- 'laws.FnExactLogMap': WHATEVER THE INPUT: true; the input reads as it did. -/
def fnExactLogMapSpec : ChangeSpec := { name := "fnExactLogMap", fn := fun _ => fun
  | [d] => { results := [.lit (.bool true)], args := [d] }
  | _ => none }
def fnExactLogMapRow : OpenClaim := { program := "ytncilhecdihmeaagreat", sum := "f941703a1ec02c08d83e3654a5069db249e5183543bb7ef60ee932bfee788b1c", func := "loop.example/g01100/laws.FnExactLogMap", spec := "fnExactLogMap", unfollowed := true, recurses := true, apart := false }
def FnExactLogMapSaid : Prop := fnExactLogMapRow.holds Tryz.pinned (OpenSpec.ofChange fnExactLogMapSpec)

/-- ITS FALSE NEIGHBOUR: 'it returns false'. Refute it at one input. -/
def fnExactLogMapWrong : ChangeSpec := { name := "fnExactLogMap", fn := fun _ => fun
  | [d] => { results := [.lit (.bool false)], args := [d] }
  | _ => none }
def FnExactLogMapWrongFalsely : Prop := fnExactLogMapRow.holds Tryz.pinned (OpenSpec.ofChange fnExactLogMapWrong)

/-- 'laws.FnExactRootOfMap': WHATEVER THE INPUT: true; the input reads as it did. -/
def fnExactRootOfMapSpec : ChangeSpec := { name := "fnExactRootOfMap", fn := fun _ => fun
  | [d1, d2] => { results := [.lit (.bool true)], args := [d1, d2] }
  | _ => none }
def fnExactRootOfMapRow : OpenClaim := { program := "ytncilhecdihmeaagreat", sum := "f941703a1ec02c08d83e3654a5069db249e5183543bb7ef60ee932bfee788b1c", func := "loop.example/g01100/laws.FnExactRootOfMap", spec := "fnExactRootOfMap", unfollowed := true, recurses := true, apart := false }
def FnExactRootOfMapSaid : Prop := fnExactRootOfMapRow.holds Tryz.pinned (OpenSpec.ofChange fnExactRootOfMapSpec)

/-- ITS FALSE NEIGHBOUR: 'it returns false'. Refute it at one input. -/
def fnExactRootOfMapWrong : ChangeSpec := { name := "fnExactRootOfMap", fn := fun _ => fun
  | [d1, d2] => { results := [.lit (.bool false)], args := [d1, d2] }
  | _ => none }
def FnExactRootOfMapWrongFalsely : Prop := fnExactRootOfMapRow.holds Tryz.pinned (OpenSpec.ofChange fnExactRootOfMapWrong)

/-- 'laws.FnExactLogOfProduct': WHATEVER THE INPUT: true; the input reads as it did. -/
def fnExactLogOfProductSpec : ChangeSpec := { name := "fnExactLogOfProduct", fn := fun _ => fun
  | [d1, d2] => { results := [.lit (.bool true)], args := [d1, d2] }
  | _ => none }
def fnExactLogOfProductRow : OpenClaim := { program := "ytncilhecdihmeaagreat", sum := "f941703a1ec02c08d83e3654a5069db249e5183543bb7ef60ee932bfee788b1c", func := "loop.example/g01100/laws.FnExactLogOfProduct", spec := "fnExactLogOfProduct", unfollowed := true, recurses := true, apart := false }
def FnExactLogOfProductSaid : Prop := fnExactLogOfProductRow.holds Tryz.pinned (OpenSpec.ofChange fnExactLogOfProductSpec)

/-- ITS FALSE NEIGHBOUR: 'it returns false'. Refute it at one input. -/
def fnExactLogOfProductWrong : ChangeSpec := { name := "fnExactLogOfProduct", fn := fun _ => fun
  | [d1, d2] => { results := [.lit (.bool false)], args := [d1, d2] }
  | _ => none }
def FnExactLogOfProductWrongFalsely : Prop := fnExactLogOfProductRow.holds Tryz.pinned (OpenSpec.ofChange fnExactLogOfProductWrong)

/-- 'laws.FnConvolution': WHATEVER THE INPUT: true; the input reads as it did. -/
def fnConvolutionSpec : ChangeSpec := { name := "fnConvolution", fn := fun _ => fun
  | [d] => { results := [.lit (.bool true)], args := [d] }
  | _ => none }
def fnConvolutionRow : OpenClaim := { program := "ytncilhecdihmeaagreat", sum := "f941703a1ec02c08d83e3654a5069db249e5183543bb7ef60ee932bfee788b1c", func := "loop.example/g01100/laws.FnConvolution", spec := "fnConvolution", unfollowed := true, recurses := true, apart := false }
def FnConvolutionSaid : Prop := fnConvolutionRow.holds Tryz.pinned (OpenSpec.ofChange fnConvolutionSpec)

/-- ITS FALSE NEIGHBOUR: 'it returns false'. Refute it at one input. -/
def fnConvolutionWrong : ChangeSpec := { name := "fnConvolution", fn := fun _ => fun
  | [d] => { results := [.lit (.bool false)], args := [d] }
  | _ => none }
def FnConvolutionWrongFalsely : Prop := fnConvolutionRow.holds Tryz.pinned (OpenSpec.ofChange fnConvolutionWrong)

/-- 'laws.FnExactMap': WHATEVER THE INPUT: true; the input reads as it did. -/
def fnExactMapSpec : ChangeSpec := { name := "fnExactMap", fn := fun _ => fun
  | [d] => { results := [.lit (.bool true)], args := [d] }
  | _ => none }
def fnExactMapRow : OpenClaim := { program := "ytncilhecdihmeaagreat", sum := "f941703a1ec02c08d83e3654a5069db249e5183543bb7ef60ee932bfee788b1c", func := "loop.example/g01100/laws.FnExactMap", spec := "fnExactMap", unfollowed := true, recurses := true, apart := false }
def FnExactMapSaid : Prop := fnExactMapRow.holds Tryz.pinned (OpenSpec.ofChange fnExactMapSpec)

/-- ITS FALSE NEIGHBOUR: 'it returns false'. Refute it at one input. -/
def fnExactMapWrong : ChangeSpec := { name := "fnExactMap", fn := fun _ => fun
  | [d] => { results := [.lit (.bool false)], args := [d] }
  | _ => none }
def FnExactMapWrongFalsely : Prop := fnExactMapRow.holds Tryz.pinned (OpenSpec.ofChange fnExactMapWrong)

/-- 'laws.FnMapBrackets': WHATEVER THE INPUT: true; the input reads as it did. -/
def fnMapBracketsSpec : ChangeSpec := { name := "fnMapBrackets", fn := fun _ => fun
  | [d] => { results := [.lit (.bool true)], args := [d] }
  | _ => none }
def fnMapBracketsRow : OpenClaim := { program := "ytncilhecdihmeaagreat", sum := "f941703a1ec02c08d83e3654a5069db249e5183543bb7ef60ee932bfee788b1c", func := "loop.example/g01100/laws.FnMapBrackets", spec := "fnMapBrackets", unfollowed := true, recurses := true, apart := false }
def FnMapBracketsSaid : Prop := fnMapBracketsRow.holds Tryz.pinned (OpenSpec.ofChange fnMapBracketsSpec)

/-- ITS FALSE NEIGHBOUR: 'it returns false'. Refute it at one input. -/
def fnMapBracketsWrong : ChangeSpec := { name := "fnMapBrackets", fn := fun _ => fun
  | [d] => { results := [.lit (.bool false)], args := [d] }
  | _ => none }
def FnMapBracketsWrongFalsely : Prop := fnMapBracketsRow.holds Tryz.pinned (OpenSpec.ofChange fnMapBracketsWrong)

/-- 'laws.FnExpLog': WHATEVER THE INPUT: true; the input reads as it did. -/
def fnExpLogSpec : ChangeSpec := { name := "fnExpLog", fn := fun _ => fun
  | [d] => { results := [.lit (.bool true)], args := [d] }
  | _ => none }
def fnExpLogRow : OpenClaim := { program := "ytncilhecdihmeaagreat", sum := "f941703a1ec02c08d83e3654a5069db249e5183543bb7ef60ee932bfee788b1c", func := "loop.example/g01100/laws.FnExpLog", spec := "fnExpLog", unfollowed := true, recurses := true, apart := false }
def FnExpLogSaid : Prop := fnExpLogRow.holds Tryz.pinned (OpenSpec.ofChange fnExpLogSpec)

/-- ITS FALSE NEIGHBOUR: 'it returns false'. Refute it at one input. -/
def fnExpLogWrong : ChangeSpec := { name := "fnExpLog", fn := fun _ => fun
  | [d] => { results := [.lit (.bool false)], args := [d] }
  | _ => none }
def FnExpLogWrongFalsely : Prop := fnExpLogRow.holds Tryz.pinned (OpenSpec.ofChange fnExpLogWrong)

/-- 'laws.FnLogOfProduct': WHATEVER THE INPUT: true; the input reads as it did. -/
def fnLogOfProductSpec : ChangeSpec := { name := "fnLogOfProduct", fn := fun _ => fun
  | [d] => { results := [.lit (.bool true)], args := [d] }
  | _ => none }
def fnLogOfProductRow : OpenClaim := { program := "ytncilhecdihmeaagreat", sum := "f941703a1ec02c08d83e3654a5069db249e5183543bb7ef60ee932bfee788b1c", func := "loop.example/g01100/laws.FnLogOfProduct", spec := "fnLogOfProduct", unfollowed := true, recurses := true, apart := false }
def FnLogOfProductSaid : Prop := fnLogOfProductRow.holds Tryz.pinned (OpenSpec.ofChange fnLogOfProductSpec)

/-- ITS FALSE NEIGHBOUR: 'it returns false'. Refute it at one input. -/
def fnLogOfProductWrong : ChangeSpec := { name := "fnLogOfProduct", fn := fun _ => fun
  | [d] => { results := [.lit (.bool false)], args := [d] }
  | _ => none }
def FnLogOfProductWrongFalsely : Prop := fnLogOfProductRow.holds Tryz.pinned (OpenSpec.ofChange fnLogOfProductWrong)

/- THE SECOND FORM. 'bulk': how many values and letters a reading holds, each counted each time it is reached (what is shared counts as often as it is met; a slice's spare places count too). A statement '..UptoSaid' is the law's where the arguments, and the package variables that the reading takes, are together of bulk at most 1048576: NARROWER than '..Said'. Prove '..Said' where nothing that the law and all that it calls make is longer than what came in: it says more and counts as full. Else prove '..UptoSaid'. A law counts once. -/
mutual
def uptoBulk {H : Type} : DataW H → Nat
  | .lit (.string bytes) => bytes.length + 1
  | .lit _ => 1
  | .nil => 1
  | .ptr d => uptoBulk d + 1
  | .slice elems spare => uptoBulkAll elems + uptoBulkAll spare + 1
  | .agg parts => uptoBulkAll parts + 1
  | .iface _ d => uptoBulk d + 1
  | .map entries => uptoBulkEntries entries + 1
  | .held _ => 1
def uptoBulkAll {H : Type} : List (DataW H) → Nat
  | [] => 0
  | d :: r => uptoBulk d + uptoBulkAll r
def uptoBulkEntries {H : Type} : List (Lit × DataW H) → Nat
  | [] => 0
  | x :: r => uptoBulkEntry x + uptoBulkEntries r
def uptoBulkEntry {H : Type} : Lit × DataW H → Nat
  | (.string bytes, d) => bytes.length + uptoBulk d + 1
  | (_, d) => uptoBulk d + 1
 end
def uptoSmall : (H : Type) → List (DataW H) → Bool := fun _ ds => decide (uptoBulkAll ds ≤ 1048576)
def OpenSpec.upto (s : _root_.Go.ChangeSpec) : _root_.Go.OpenSpec := { _root_.Go.OpenSpec.ofChange s with cond := some uptoSmall }

/-- 'laws.FnExactOrderOfMap', WHERE WHAT IT READS IS OF BULK AT MOST 1048576: true; the input reads as it did. -/
def fnExactOrderOfMapUptoRow : OpenClaim := { program := "ytncilhecdihmeaagreat", sum := "f941703a1ec02c08d83e3654a5069db249e5183543bb7ef60ee932bfee788b1c", func := "loop.example/g01100/laws.FnExactOrderOfMap", spec := "fnExactOrderOfMap", unfollowed := true, recurses := true, apart := false, narrowed := true }
def FnExactOrderOfMapUptoSaid : Prop := fnExactOrderOfMapUptoRow.holds Tryz.pinned (OpenSpec.upto fnExactOrderOfMapSpec)

/-- 'laws.FnMapOrders', WHERE WHAT IT READS IS OF BULK AT MOST 1048576: true; the input reads as it did. -/
def fnMapOrdersUptoRow : OpenClaim := { program := "ytncilhecdihmeaagreat", sum := "f941703a1ec02c08d83e3654a5069db249e5183543bb7ef60ee932bfee788b1c", func := "loop.example/g01100/laws.FnMapOrders", spec := "fnMapOrders", unfollowed := true, recurses := true, apart := false, narrowed := true }
def FnMapOrdersUptoSaid : Prop := fnMapOrdersUptoRow.holds Tryz.pinned (OpenSpec.upto fnMapOrdersSpec)

/-- 'laws.FnExactActOn', WHERE WHAT IT READS IS OF BULK AT MOST 1048576: true; the input reads as it did. -/
def fnExactActOnUptoRow : OpenClaim := { program := "ytncilhecdihmeaagreat", sum := "f941703a1ec02c08d83e3654a5069db249e5183543bb7ef60ee932bfee788b1c", func := "loop.example/g01100/laws.FnExactActOn", spec := "fnExactActOn", unfollowed := true, recurses := true, apart := false, narrowed := true }
def FnExactActOnUptoSaid : Prop := fnExactActOnUptoRow.holds Tryz.pinned (OpenSpec.upto fnExactActOnSpec)

/-- 'laws.FnExactBracketOf', WHERE WHAT IT READS IS OF BULK AT MOST 1048576: true; the input reads as it did. -/
def fnExactBracketOfUptoRow : OpenClaim := { program := "ytncilhecdihmeaagreat", sum := "f941703a1ec02c08d83e3654a5069db249e5183543bb7ef60ee932bfee788b1c", func := "loop.example/g01100/laws.FnExactBracketOf", spec := "fnExactBracketOf", unfollowed := true, recurses := true, apart := false, narrowed := true }
def FnExactBracketOfUptoSaid : Prop := fnExactBracketOfUptoRow.holds Tryz.pinned (OpenSpec.upto fnExactBracketOfSpec)

/-- 'laws.FnExactExpMap', WHERE WHAT IT READS IS OF BULK AT MOST 1048576: true; the input reads as it did. -/
def fnExactExpMapUptoRow : OpenClaim := { program := "ytncilhecdihmeaagreat", sum := "f941703a1ec02c08d83e3654a5069db249e5183543bb7ef60ee932bfee788b1c", func := "loop.example/g01100/laws.FnExactExpMap", spec := "fnExactExpMap", unfollowed := true, recurses := true, apart := false, narrowed := true }
def FnExactExpMapUptoSaid : Prop := fnExactExpMapUptoRow.holds Tryz.pinned (OpenSpec.upto fnExactExpMapSpec)

/-- 'laws.FnExactFlowMap', WHERE WHAT IT READS IS OF BULK AT MOST 1048576: true; the input reads as it did. -/
def fnExactFlowMapUptoRow : OpenClaim := { program := "ytncilhecdihmeaagreat", sum := "f941703a1ec02c08d83e3654a5069db249e5183543bb7ef60ee932bfee788b1c", func := "loop.example/g01100/laws.FnExactFlowMap", spec := "fnExactFlowMap", unfollowed := true, recurses := true, apart := false, narrowed := true }
def FnExactFlowMapUptoSaid : Prop := fnExactFlowMapUptoRow.holds Tryz.pinned (OpenSpec.upto fnExactFlowMapSpec)

/-- 'laws.FnExactLogMap', WHERE WHAT IT READS IS OF BULK AT MOST 1048576: true; the input reads as it did. -/
def fnExactLogMapUptoRow : OpenClaim := { program := "ytncilhecdihmeaagreat", sum := "f941703a1ec02c08d83e3654a5069db249e5183543bb7ef60ee932bfee788b1c", func := "loop.example/g01100/laws.FnExactLogMap", spec := "fnExactLogMap", unfollowed := true, recurses := true, apart := false, narrowed := true }
def FnExactLogMapUptoSaid : Prop := fnExactLogMapUptoRow.holds Tryz.pinned (OpenSpec.upto fnExactLogMapSpec)

/-- 'laws.FnExactRootOfMap', WHERE WHAT IT READS IS OF BULK AT MOST 1048576: true; the input reads as it did. -/
def fnExactRootOfMapUptoRow : OpenClaim := { program := "ytncilhecdihmeaagreat", sum := "f941703a1ec02c08d83e3654a5069db249e5183543bb7ef60ee932bfee788b1c", func := "loop.example/g01100/laws.FnExactRootOfMap", spec := "fnExactRootOfMap", unfollowed := true, recurses := true, apart := false, narrowed := true }
def FnExactRootOfMapUptoSaid : Prop := fnExactRootOfMapUptoRow.holds Tryz.pinned (OpenSpec.upto fnExactRootOfMapSpec)

/-- 'laws.FnExactLogOfProduct', WHERE WHAT IT READS IS OF BULK AT MOST 1048576: true; the input reads as it did. -/
def fnExactLogOfProductUptoRow : OpenClaim := { program := "ytncilhecdihmeaagreat", sum := "f941703a1ec02c08d83e3654a5069db249e5183543bb7ef60ee932bfee788b1c", func := "loop.example/g01100/laws.FnExactLogOfProduct", spec := "fnExactLogOfProduct", unfollowed := true, recurses := true, apart := false, narrowed := true }
def FnExactLogOfProductUptoSaid : Prop := fnExactLogOfProductUptoRow.holds Tryz.pinned (OpenSpec.upto fnExactLogOfProductSpec)

/-- 'laws.FnConvolution', WHERE WHAT IT READS IS OF BULK AT MOST 1048576: true; the input reads as it did. -/
def fnConvolutionUptoRow : OpenClaim := { program := "ytncilhecdihmeaagreat", sum := "f941703a1ec02c08d83e3654a5069db249e5183543bb7ef60ee932bfee788b1c", func := "loop.example/g01100/laws.FnConvolution", spec := "fnConvolution", unfollowed := true, recurses := true, apart := false, narrowed := true }
def FnConvolutionUptoSaid : Prop := fnConvolutionUptoRow.holds Tryz.pinned (OpenSpec.upto fnConvolutionSpec)

/-- 'laws.FnExactMap', WHERE WHAT IT READS IS OF BULK AT MOST 1048576: true; the input reads as it did. -/
def fnExactMapUptoRow : OpenClaim := { program := "ytncilhecdihmeaagreat", sum := "f941703a1ec02c08d83e3654a5069db249e5183543bb7ef60ee932bfee788b1c", func := "loop.example/g01100/laws.FnExactMap", spec := "fnExactMap", unfollowed := true, recurses := true, apart := false, narrowed := true }
def FnExactMapUptoSaid : Prop := fnExactMapUptoRow.holds Tryz.pinned (OpenSpec.upto fnExactMapSpec)

/-- 'laws.FnMapBrackets', WHERE WHAT IT READS IS OF BULK AT MOST 1048576: true; the input reads as it did. -/
def fnMapBracketsUptoRow : OpenClaim := { program := "ytncilhecdihmeaagreat", sum := "f941703a1ec02c08d83e3654a5069db249e5183543bb7ef60ee932bfee788b1c", func := "loop.example/g01100/laws.FnMapBrackets", spec := "fnMapBrackets", unfollowed := true, recurses := true, apart := false, narrowed := true }
def FnMapBracketsUptoSaid : Prop := fnMapBracketsUptoRow.holds Tryz.pinned (OpenSpec.upto fnMapBracketsSpec)

/-- 'laws.FnExpLog', WHERE WHAT IT READS IS OF BULK AT MOST 1048576: true; the input reads as it did. -/
def fnExpLogUptoRow : OpenClaim := { program := "ytncilhecdihmeaagreat", sum := "f941703a1ec02c08d83e3654a5069db249e5183543bb7ef60ee932bfee788b1c", func := "loop.example/g01100/laws.FnExpLog", spec := "fnExpLog", unfollowed := true, recurses := true, apart := false, narrowed := true }
def FnExpLogUptoSaid : Prop := fnExpLogUptoRow.holds Tryz.pinned (OpenSpec.upto fnExpLogSpec)

/-- 'laws.FnLogOfProduct', WHERE WHAT IT READS IS OF BULK AT MOST 1048576: true; the input reads as it did. -/
def fnLogOfProductUptoRow : OpenClaim := { program := "ytncilhecdihmeaagreat", sum := "f941703a1ec02c08d83e3654a5069db249e5183543bb7ef60ee932bfee788b1c", func := "loop.example/g01100/laws.FnLogOfProduct", spec := "fnLogOfProduct", unfollowed := true, recurses := true, apart := false, narrowed := true }
def FnLogOfProductUptoSaid : Prop := fnLogOfProductUptoRow.holds Tryz.pinned (OpenSpec.upto fnLogOfProductSpec)

end Rows
end Go.Proofs.YtncilhecdihmeaaGreat
