/- Alike stages: equality of lists, the sums of a row class by class. -/
import Derived.Test.YthepgmajeljdhaaGreatDoorA5
import Derived.Test.YthepgmajeljdhaaGreatDoorHB
import Derived.Test.YthepgmajeljdhaaGreatDoorPlA
import Derived.Test.YthepgmajeljdhaaGreatDoorT1
namespace Go.Proofs
open Go Go.Fw Go.RowKit Go.Rk

end Go.Proofs
/- Alike stages, the program's. -/
namespace Go.Proofs
open Go Go.Fw Go.RowKit Go.Rk
theorem stages_at {lo hi : Nat} {w : World} {v : Value} {x : TabD} (h : IT lo hi w v x) : Does Tryz.prog 80 [v] w fun r w' => r = .int .i64 (x.2.length : Nat) ∧ Chg 0 0 w w' := by
  obtain ⟨va, vb, rfl, hA, hB⟩ := h
  obtain ⟨a', c', hvb⟩ := hB.shape
  subst hvb
  have hm := hB.len
  unfold maxLen at hm
  refine Does.enter Tryz.func80 Tryz.ntmps80 rfl (by rfl) ?_
  repeat' (first|refine X.O ?_|refine X.A ?_|refine X.B ?_|refine X.C ?_|refine X.D ?_|refine X.E ?_|refine X.F ?_|refine X.G ?_|refine X.H ?_|refine X.I ?_|fail)
  refine WL.step (o_box (by rfl) ?_)
  intro w1 hb1 hbl1 hz1
  repeat' (first|refine X.O ?_|refine X.A ?_|refine X.B ?_|refine X.C ?_|refine X.D ?_|refine X.E ?_|refine X.F ?_|refine X.G ?_|refine X.H ?_|refine X.I ?_|fail)
  refine WL.fld hb1 ?_
  intro p1
  repeat' (first|refine X.O ?_|refine X.A ?_|refine X.B ?_|refine X.C ?_|refine X.D ?_|refine X.E ?_|refine X.F ?_|refine X.G ?_|refine X.H ?_|refine X.I ?_|fail)
  refine ⟨_, ret1 rfl (by rfl), ?_⟩
  exact ⟨rfl, Chg.of_below hbl1⟩
theorem matchC_eq {xss : List (List Int)} {cls : List Int} {k i : Nat} (hk : k < xss.length) (hi : i < xss.length) (hk2 : k < cls.length) (hi2 : i < cls.length) :
    matchC xss cls k i = (decide (cls[k] = cls[i]) && decide (sumsL xss[k] cls = sumsL xss[i] cls)) := by
  unfold matchC
  rw [List.getElem?_eq_getElem hk, List.getElem?_eq_getElem hi, List.getElem?_eq_getElem hk2, List.getElem?_eq_getElem hi2]
  rfl
end Go.Proofs
/- Alike stages, the reference's. -/
namespace Go.Proofs
open Go Go.Fw Go.RowKit Go.Rk
/-- What a call gives: a new slice of slices. -/
def _root_.Go.Fw.NewSS (e e2 : TypeId) (w : World) (r : Value) (w' : World) (xss : List (List Int)) : Prop := OwSS e e2 w.heap.size w'.heap.size w' r xss ∧ Below w.heap.size w w'
theorem _root_.Go.Fw.OwSSv.none {e e2 lo : Nat} {w : World} {v : Value} (hown : Own lo e w v []) (h : e ≠ e2) : OwSSv e e2 lo w.heap.size w v [] [] :=
  ⟨hown, fun k hk => (hown.block k hk).2, Nat.le_refl _, rfl, fun i u xs hu => by simp at hu, fun i j u u' _ hu => by simp at hu, h⟩
end Go.Proofs
