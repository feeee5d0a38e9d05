/- FnExactNeutralTableau holds: for every input the law returns true, and the input reads as it did. No condition. -/
import Derived.Test.YthdopepmndoamaaRows
import Derived.Test.YthdopepmndoamaaL2
import Derived.Test.YthdopepmndoamaaRow0
namespace Go.Proofs.Ythdopepmndoamaa
namespace fnExactNeutralTableau
open Go Go.Fw Go.Proofs Go.ChangeShapes Go.WideShapes Go.ChangeAt Go.RowKit
open Go.ChangeMaps (open_string shut_string)
set_option linter.unusedVariables false

set_option maxRecDepth 100000 in
theorem lifted (os : Os) (started : os.Started) (H : Type) (enc : TypeId × Value → H) :
    ReturnsInHanded {} Try.checked os 4 .any (Rows.fnExactNeutralTableauSpec.pre6 enc Try.prog Try.f4 Rows.fnExactNeutralTableauRow.domain false) (Rows.fnExactNeutralTableauSpec.post enc Try.prog Try.f4 false true false false) := by
  refine returnsInHanded_of_change (C := Try.checked) own started (by kernel_rfl) Try.func4
    (ChangeSpec.witness6 (enc := enc) (C := Try.checked) false ⟨#[], #[], []⟩ 8 (by kernel_rfl) (by kernel_rfl) (by kernel_rfl) (by kernel_rfl)) ?_
  intro W base args ds gs before hval0 hW hcnd _
  have hval : ∀ (j : Nat) t v, Try.f4.params[j]? = some t → args[j]? = some v → Value.okWide Try.prog W .any base t v := hval0
  have hW' := hW
  obtain ⟨p, q, hA0, hV, rfl, hfz, hnd⟩ := hW
  have hA : DataW.TrodAll enc Try.prog W 0 (fun _ => true) true Try.f4.params.toList args.toList ds p := hA0
  rw [Try.params4] at hA hval
  obtain ⟨hargs, rfl, rfl⟩ := trodAll_none hA
  subst hargs
  obtain ⟨rfl, rfl⟩ := trodVars_none hV
  clear hA0 hval0
  refine Calls.mono (FnExactNeutralTableau_any _) fun e W' ⟨r, he, hr, bel⟩ => ?_
  subst he
  subst hr
  exact ⟨_, rfl, _, _, _, [], _, [], hW', trodAll_mk1 (shut_bool Try.underlying4 _), trodAll_mk0, rfl, bel.frame _, fun h => by cases h⟩

theorem over : Rows.fnExactNeutralTableauRow.holds Try.pinned (OpenSpec.ofChange Rows.fnExactNeutralTableauSpec) :=
  OpenClaim.holds_of_wide 4 Try.f4 rfl rfl rfl rfl rfl rfl rfl ⟨rfl, rfl, rfl, rfl, rfl⟩ rfl rfl rfl rfl rfl (by kernel_rfl) Try.func4 (by kernel_rfl)
    (of_decide_eq_true (by kernel_rfl)) (by unfold Func.isWrapper; first | (rw [if_pos (by decide +kernel)]; kernel_rfl) | (rw [if_neg (by decide +kernel)]; exact ⟨rfl, rfl⟩))
    (fun os started H enc _ => lifted os started H enc)

end fnExactNeutralTableau
/-- The statement. -/
theorem fnExactNeutralTableau_holds : Rows.FnExactNeutralTableauSaid := fnExactNeutralTableau.over
#print axioms fnExactNeutralTableau_holds
end Go.Proofs.Ythdopepmndoamaa
