/- Tableaus: what the program's and the reference's functions say of them. -/
import Derived.Test.YtncilhecdihmeaaGreatHB
import Derived.Test.YtncilhecdihmeaaGreatPlA
import Derived.Test.YtncilhecdihmeaaGreatA1
namespace Go.Proofs
open Go Go.Fw Go.RowKit Go.Rk

theorem length_any {lo hi : Nat} {w : World} {v : Value} {xs : List Int} (h : IS lo hi w v xs) : Does Tryz.prog 155 [v] w fun r w' => r = .int .i64 xs.length ∧ Still w w' := by
  obtain ⟨a, c, hv⟩ := h.shape
  rw [hv] at h ⊢
  have hm := h.len
  unfold maxLen at hm
  refine Does.enter Tryz.func155 Tryz.ntmps155 rfl (by rfl) ?_
  repeat' (first|refine X.O ?_|refine X.A ?_|refine X.B ?_|refine X.C ?_|refine X.D ?_|refine X.E ?_|refine X.F ?_|refine X.G ?_|refine X.H ?_|refine X.I ?_|fail)
  refine ⟨_, ret1 rfl (by rfl), ?_⟩
  exact ⟨rfl, Still.refl _⟩
end Go.Proofs
