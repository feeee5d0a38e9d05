/-
  No cell of these rows narrows 'for every input' (looked for: loops, veiled, ifaces, maps, wideKeys, modest, calm, conditions, laid).
  DERIVED. THE GIVEN ROWS OF THIS SEAT. 5 by the template 'for every input the law returns true; each argument reads behind the call as it read before'; 0 by the template 'total and deterministic' (their statements: YtncilhecdihmeaaTotals.lean).
  GIVEN WITH THE SEED: the statements are not yours to turn. If you find one false, say at which input.
  Laid BY PROGRAM, IN A SANDBOX (cutbox-rows.mjs): the forced cells as the released guide's own fill.sh prints them over the translation e7fb2f36e28f8d2e… (all of the seat's roots in one cut). By AI agents, Wed Nov 11 2026. No macro, syntax, notation, axiom, sorry.
-/
import Derived.Test.YtncilhecdihmeaaChecked
import GoSem.Claim
import GoSem.ClaimJoined
import GoSem.ClaimMapViews
import Derived.JoinedTies
import Derived.KernelRfl
namespace Go.Proofs.Ytncilhecdihmeaa
/- THE CELL 'sum', in the pinned program and in every row, IS THE sha256 OF THE DUMP (.gsa) THAT YtncilhecdihmeaaProg.lean LOADS. Nothing in Lean hashes anything: it is a label: what it is worth is what the hold of that sum in a sandbox is worth. -/
noncomputable def Try.pinned : Pinned := { name := "ytncilhecdihmeaa", sum := "e7fb2f36e28f8d2e2cfb81caee89d635f35432a9c6f89c03b1e43d46a19691d5", checked := Try.checked }
namespace Rows
def none {H : Type} : Left H := { results := [], args := [] }

/-- 'laws.FnExactAgreeTo': WHATEVER THE INPUT: true; the input reads as it did. -/
def fnExactAgreeToSpec : ChangeSpec := { name := "fnExactAgreeTo", fn := fun _ => fun
  | [d1, d2] => { results := [.lit (.bool true)], args := [d1, d2] }
  | _ => none }
def fnExactAgreeToRow : OpenClaim := { program := "ytncilhecdihmeaa", sum := "e7fb2f36e28f8d2e2cfb81caee89d635f35432a9c6f89c03b1e43d46a19691d5", func := "loop.example/g01100/laws.FnExactAgreeTo", spec := "fnExactAgreeTo", unfollowed := true, recurses := true, apart := false }
def FnExactAgreeToSaid : Prop := fnExactAgreeToRow.holds Try.pinned (OpenSpec.ofChange fnExactAgreeToSpec)

/-- ITS FALSE NEIGHBOUR: 'it returns false'. Refute it at one input. -/
def fnExactAgreeToWrong : ChangeSpec := { name := "fnExactAgreeTo", fn := fun _ => fun
  | [d1, d2] => { results := [.lit (.bool false)], args := [d1, d2] }
  | _ => none }
def FnExactAgreeToWrongFalsely : Prop := fnExactAgreeToRow.holds Try.pinned (OpenSpec.ofChange fnExactAgreeToWrong)

/-- 'laws.FnExactTruncateMap': WHATEVER THE INPUT: true; the input reads as it did. -/
def fnExactTruncateMapSpec : ChangeSpec := { name := "fnExactTruncateMap", fn := fun _ => fun
  | [d1, d2] => { results := [.lit (.bool true)], args := [d1, d2] }
  | _ => none }
def fnExactTruncateMapRow : OpenClaim := { program := "ytncilhecdihmeaa", sum := "e7fb2f36e28f8d2e2cfb81caee89d635f35432a9c6f89c03b1e43d46a19691d5", func := "loop.example/g01100/laws.FnExactTruncateMap", spec := "fnExactTruncateMap", unfollowed := true, recurses := true, apart := false }
def FnExactTruncateMapSaid : Prop := fnExactTruncateMapRow.holds Try.pinned (OpenSpec.ofChange fnExactTruncateMapSpec)

/-- ITS FALSE NEIGHBOUR: 'it returns false'. Refute it at one input. -/
def fnExactTruncateMapWrong : ChangeSpec := { name := "fnExactTruncateMap", fn := fun _ => fun
  | [d1, d2] => { results := [.lit (.bool false)], args := [d1, d2] }
  | _ => none }
def FnExactTruncateMapWrongFalsely : Prop := fnExactTruncateMapRow.holds Try.pinned (OpenSpec.ofChange fnExactTruncateMapWrong)

/-- 'laws.FnExactPartOfMap': WHATEVER THE INPUT: true; the input reads as it did. -/
def fnExactPartOfMapSpec : ChangeSpec := { name := "fnExactPartOfMap", fn := fun _ => fun
  | [d1, d2] => { results := [.lit (.bool true)], args := [d1, d2] }
  | _ => none }
def fnExactPartOfMapRow : OpenClaim := { program := "ytncilhecdihmeaa", sum := "e7fb2f36e28f8d2e2cfb81caee89d635f35432a9c6f89c03b1e43d46a19691d5", func := "loop.example/g01100/laws.FnExactPartOfMap", spec := "fnExactPartOfMap", unfollowed := true, recurses := true, apart := false }
def FnExactPartOfMapSaid : Prop := fnExactPartOfMapRow.holds Try.pinned (OpenSpec.ofChange fnExactPartOfMapSpec)

/-- ITS FALSE NEIGHBOUR: 'it returns false'. Refute it at one input. -/
def fnExactPartOfMapWrong : ChangeSpec := { name := "fnExactPartOfMap", fn := fun _ => fun
  | [d1, d2] => { results := [.lit (.bool false)], args := [d1, d2] }
  | _ => none }
def FnExactPartOfMapWrongFalsely : Prop := fnExactPartOfMapRow.holds Try.pinned (OpenSpec.ofChange fnExactPartOfMapWrong)

/-- 'laws.FnExactScaleMap': WHATEVER THE INPUT: true; the input reads as it did. -/
def fnExactScaleMapSpec : ChangeSpec := { name := "fnExactScaleMap", fn := fun _ => fun
  | [d1, d2] => { results := [.lit (.bool true)], args := [d1, d2] }
  | _ => none }
def fnExactScaleMapRow : OpenClaim := { program := "ytncilhecdihmeaa", sum := "e7fb2f36e28f8d2e2cfb81caee89d635f35432a9c6f89c03b1e43d46a19691d5", func := "loop.example/g01100/laws.FnExactScaleMap", spec := "fnExactScaleMap", unfollowed := true, recurses := true, apart := false }
def FnExactScaleMapSaid : Prop := fnExactScaleMapRow.holds Try.pinned (OpenSpec.ofChange fnExactScaleMapSpec)

/-- ITS FALSE NEIGHBOUR: 'it returns false'. Refute it at one input. -/
def fnExactScaleMapWrong : ChangeSpec := { name := "fnExactScaleMap", fn := fun _ => fun
  | [d1, d2] => { results := [.lit (.bool false)], args := [d1, d2] }
  | _ => none }
def FnExactScaleMapWrongFalsely : Prop := fnExactScaleMapRow.holds Try.pinned (OpenSpec.ofChange fnExactScaleMapWrong)

/-- 'laws.FnActions': WHATEVER THE INPUT: true; the input reads as it did. -/
def fnActionsSpec : ChangeSpec := { name := "fnActions", fn := fun _ => fun
  | [d] => { results := [.lit (.bool true)], args := [d] }
  | _ => none }
def fnActionsRow : OpenClaim := { program := "ytncilhecdihmeaa", sum := "e7fb2f36e28f8d2e2cfb81caee89d635f35432a9c6f89c03b1e43d46a19691d5", func := "loop.example/g01100/laws.FnActions", spec := "fnActions", unfollowed := true, recurses := true, apart := false }
def FnActionsSaid : Prop := fnActionsRow.holds Try.pinned (OpenSpec.ofChange fnActionsSpec)

/-- ITS FALSE NEIGHBOUR: 'it returns false'. Refute it at one input. -/
def fnActionsWrong : ChangeSpec := { name := "fnActions", fn := fun _ => fun
  | [d] => { results := [.lit (.bool false)], args := [d] }
  | _ => none }
def FnActionsWrongFalsely : Prop := fnActionsRow.holds Try.pinned (OpenSpec.ofChange fnActionsWrong)

/- THE SECOND FORM. 'bulk': how many values and letters a reading holds, each counted each time it is reached (what is shared counts as often as it is met; a slice's spare places count too). A statement '..UptoSaid' is the law's where the arguments, and the package variables that the reading takes, are together of bulk at most 1048576: NARROWER than '..Said'. Prove '..Said' where nothing that the law and all that it calls make is longer than what came in: it says more and counts as full. Else prove '..UptoSaid'. A law counts once. -/
mutual
def uptoBulk {H : Type} : DataW H → Nat
  | .lit (.string bytes) => bytes.length + 1
  | .lit _ => 1
  | .nil => 1
  | .ptr d => uptoBulk d + 1
  | .slice elems spare => uptoBulkAll elems + uptoBulkAll spare + 1
  | .agg parts => uptoBulkAll parts + 1
  | .iface _ d => uptoBulk d + 1
  | .map entries => uptoBulkEntries entries + 1
  | .held _ => 1
def uptoBulkAll {H : Type} : List (DataW H) → Nat
  | [] => 0
  | d :: r => uptoBulk d + uptoBulkAll r
def uptoBulkEntries {H : Type} : List (Lit × DataW H) → Nat
  | [] => 0
  | x :: r => uptoBulkEntry x + uptoBulkEntries r
def uptoBulkEntry {H : Type} : Lit × DataW H → Nat
  | (.string bytes, d) => bytes.length + uptoBulk d + 1
  | (_, d) => uptoBulk d + 1
 end
def uptoSmall : (H : Type) → List (DataW H) → Bool := fun _ ds => decide (uptoBulkAll ds ≤ 1048576)
def OpenSpec.upto (s : _root_.Go.ChangeSpec) : _root_.Go.OpenSpec := { _root_.Go.OpenSpec.ofChange s with cond := some uptoSmall }

/-- 'laws.FnExactAgreeTo', WHERE WHAT IT READS IS OF BULK AT MOST 1048576: true; the input reads as it did. -/
def fnExactAgreeToUptoRow : OpenClaim := { program := "ytncilhecdihmeaa", sum := "e7fb2f36e28f8d2e2cfb81caee89d635f35432a9c6f89c03b1e43d46a19691d5", func := "loop.example/g01100/laws.FnExactAgreeTo", spec := "fnExactAgreeTo", unfollowed := true, recurses := true, apart := false, narrowed := true }
def FnExactAgreeToUptoSaid : Prop := fnExactAgreeToUptoRow.holds Try.pinned (OpenSpec.upto fnExactAgreeToSpec)

/-- 'laws.FnExactTruncateMap', WHERE WHAT IT READS IS OF BULK AT MOST 1048576: true; the input reads as it did. -/
def fnExactTruncateMapUptoRow : OpenClaim := { program := "ytncilhecdihmeaa", sum := "e7fb2f36e28f8d2e2cfb81caee89d635f35432a9c6f89c03b1e43d46a19691d5", func := "loop.example/g01100/laws.FnExactTruncateMap", spec := "fnExactTruncateMap", unfollowed := true, recurses := true, apart := false, narrowed := true }
def FnExactTruncateMapUptoSaid : Prop := fnExactTruncateMapUptoRow.holds Try.pinned (OpenSpec.upto fnExactTruncateMapSpec)

/-- 'laws.FnExactPartOfMap', WHERE WHAT IT READS IS OF BULK AT MOST 1048576: true; the input reads as it did. -/
def fnExactPartOfMapUptoRow : OpenClaim := { program := "ytncilhecdihmeaa", sum := "e7fb2f36e28f8d2e2cfb81caee89d635f35432a9c6f89c03b1e43d46a19691d5", func := "loop.example/g01100/laws.FnExactPartOfMap", spec := "fnExactPartOfMap", unfollowed := true, recurses := true, apart := false, narrowed := true }
def FnExactPartOfMapUptoSaid : Prop := fnExactPartOfMapUptoRow.holds Try.pinned (OpenSpec.upto fnExactPartOfMapSpec)

/-- 'laws.FnExactScaleMap', WHERE WHAT IT READS IS OF BULK AT MOST 1048576: true; the input reads as it did. -/
def fnExactScaleMapUptoRow : OpenClaim := { program := "ytncilhecdihmeaa", sum := "e7fb2f36e28f8d2e2cfb81caee89d635f35432a9c6f89c03b1e43d46a19691d5", func := "loop.example/g01100/laws.FnExactScaleMap", spec := "fnExactScaleMap", unfollowed := true, recurses := true, apart := false, narrowed := true }
def FnExactScaleMapUptoSaid : Prop := fnExactScaleMapUptoRow.holds Try.pinned (OpenSpec.upto fnExactScaleMapSpec)

/-- 'laws.FnActions', WHERE WHAT IT READS IS OF BULK AT MOST 1048576: true; the input reads as it did. -/
def fnActionsUptoRow : OpenClaim := { program := "ytncilhecdihmeaa", sum := "e7fb2f36e28f8d2e2cfb81caee89d635f35432a9c6f89c03b1e43d46a19691d5", func := "loop.example/g01100/laws.FnActions", spec := "fnActions", unfollowed := true, recurses := true, apart := false, narrowed := true }
def FnActionsUptoSaid : Prop := fnActionsUptoRow.holds Try.pinned (OpenSpec.upto fnActionsSpec)

end Rows
end Go.Proofs.Ytncilhecdihmeaa
