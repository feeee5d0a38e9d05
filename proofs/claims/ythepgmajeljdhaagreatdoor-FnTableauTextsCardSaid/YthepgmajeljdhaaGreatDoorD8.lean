/- What laws over draws begin with: big, mod5; when a list is a level list. -/
import Derived.Test.YthepgmajeljdhaaGreatDoorD1
import Derived.Test.YthepgmajeljdhaaGreatDoorPlA
namespace Go.Rk
open Go.Fw Go.Proofs
theorem isLev_of {t : List Int} (h : Lv t) (h8 : t.length ≤ 8) : isLev t = true := by
  unfold isLev
  rw [Bool.and_eq_true, decide_eq_true_eq]
  exact ⟨⟨h.pos, h8⟩, List.all_eq_true.2 fun i hi => h.at_ i (List.mem_range.1 hi)⟩
end Go.Rk
namespace Go.Proofs
open Go Go.Fw Go.RowKit Go.Rk
theorem big_any {lo hi : Nat} {w : World} {v : Value} {bs : List Int} (h : IU lo hi w v bs) : Does Tryz.prog 5 [v] w fun r w' => r = .bool (decide ((bs.length : Int) > 4096)) ∧ Still w w' := by
  obtain ⟨a, c, hv⟩ := h.shape
  subst hv
  refine Does.enter Tryz.func5 Tryz.ntmps5 rfl (by rfl) ?_
  repeat' (first|refine X.O ?_|refine X.A ?_|refine X.B ?_|refine X.C ?_|refine X.D ?_|refine X.E ?_|refine X.F ?_|refine X.G ?_|refine X.H ?_|refine X.I ?_|fail)
  refine ⟨_, ret1 rfl (by rfl), ?_⟩
  exact ⟨rfl, Still.refl _⟩
end Go.Proofs
