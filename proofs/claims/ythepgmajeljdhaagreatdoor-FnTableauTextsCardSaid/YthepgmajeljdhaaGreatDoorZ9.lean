/- NumberOf at all that can be read. -/
import Derived.Test.YthepgmajeljdhaaGreatDoorZ8
set_option maxRecDepth 8000
namespace Go.Proofs
open Go Go.Fw Go.RowKit Go.Rk
theorem NumberOf_all (p q : Int) (hp : -1000000000 ≤ p ∧ p ≤ 1000000000) (hq : 1 ≤ q ∧ q ≤ 1000000000) (w : World) : Does Tryz.prog 93 [.int .i64 p, .int .i64 q] w fun r w' => r = .tuple #[.int .i64 (if q.tmod 10007 = 0 then 0 else nm (nm p * powN (nm q) 10005)), .int .i64 (if q.tmod 10007 = 0 then 5 else 0)] ∧ Still w w' := by
  refine Does.enter Tryz.func93 Tryz.ntmps93 rfl (by rfl) ?_
  repeat' (first|refine X.O ?_|refine X.A ?_|refine X.B ?_|refine X.C ?_|refine X.D ?_|refine X.E ?_|refine X.F ?_|refine X.G ?_|refine X.H ?_|refine X.I ?_|fail)
  refine WL.call (inRange_any _ _ _ _) ?_
  rintro _ w1 ⟨rfl, hs1⟩
  rw [decide_eq_true (by omega)]
  repeat' (first|refine X.O ?_|refine X.A ?_|refine X.B ?_|refine X.C ?_|refine X.D ?_|refine X.E ?_|refine X.F ?_|refine X.G ?_|refine X.H ?_|refine X.I ?_|fail)
  refine WL.call (inRange_any _ _ _ _) ?_
  rintro _ w2 ⟨rfl, hs2⟩
  rw [decide_eq_true (by omega)]
  have hs12 := hs1.trans hs2
  repeat' (first|refine X.O ?_|refine X.A ?_|refine X.B ?_|refine X.C ?_|refine X.D ?_|refine X.E ?_|refine X.F ?_|refine X.G ?_|refine X.H ?_|refine X.I ?_|fail)
  refine WL.step (o_rem (by rfl) (by rfl) (by omega) ?_)
  obtain ⟨m, hm⟩ : ∃ m, q.tmod 10007 = m := ⟨_, rfl⟩
  rw [hm]
  repeat' (first|refine X.O ?_|refine X.A ?_|refine X.B ?_|refine X.C ?_|refine X.D ?_|refine X.E ?_|refine X.F ?_|refine X.G ?_|refine X.H ?_|refine X.I ?_|fail)
  first|refine X.J (fun _ => ?_) (fun _ => ?_)|refine X.L (fun _ => ?_) (fun _ => ?_)|refine X.M (fun _ => ?_) (fun _ => ?_)|refine X.R (fun _ => ?_) (fun _ => ?_)|fail
  · rename_i h0
    rw [if_pos h0, if_pos h0]
    repeat' (first|refine X.O ?_|refine X.A ?_|refine X.B ?_|refine X.C ?_|refine X.D ?_|refine X.E ?_|refine X.F ?_|refine X.G ?_|refine X.H ?_|refine X.I ?_|fail)
    refine ⟨_, ret2 rfl (by rfl) (by rfl), ?_⟩
    exact ⟨rfl, hs12⟩
  rename_i h0
  rw [if_neg h0, if_neg h0]
  repeat' (first|refine X.O ?_|refine X.A ?_|refine X.B ?_|refine X.C ?_|refine X.D ?_|refine X.E ?_|refine X.F ?_|refine X.G ?_|refine X.H ?_|refine X.I ?_|fail)
  refine WL.call (num_any _ _) ?_
  rintro _ _ ⟨rfl, rfl⟩
  repeat' (first|refine X.O ?_|refine X.A ?_|refine X.B ?_|refine X.C ?_|refine X.D ?_|refine X.E ?_|refine X.F ?_|refine X.G ?_|refine X.H ?_|refine X.I ?_|fail)
  refine WL.call (num_any _ _) ?_
  rintro _ _ ⟨rfl, rfl⟩
  have hnq := nm_bd q
  have hnp := nm_bd p
  repeat' (first|refine X.O ?_|refine X.A ?_|refine X.B ?_|refine X.C ?_|refine X.D ?_|refine X.E ?_|refine X.F ?_|refine X.G ?_|refine X.H ?_|refine X.I ?_|fail)
  refine WL.call (inv_any _ hnq.1 hnq.2 _) ?_
  rintro _ w3 ⟨rfl, hs3⟩
  have hpb := powN_bd (nm q) 10005
  repeat' (first|refine X.O ?_|refine X.A ?_|refine X.B ?_|refine X.C ?_|refine X.D ?_|refine X.E ?_|refine X.F ?_|refine X.G ?_|refine X.H ?_|refine X.I ?_|fail)
  refine WL.step (o_mul (by rfl) (by rfl) (by have := mul_bd hnp.1 hnp.2 hpb.1 hpb.2; unfold InI; omega) ?_)
  refine WL.call (num_any _ _) ?_
  rintro _ _ ⟨rfl, rfl⟩
  repeat' (first|refine X.O ?_|refine X.A ?_|refine X.B ?_|refine X.C ?_|refine X.D ?_|refine X.E ?_|refine X.F ?_|refine X.G ?_|refine X.H ?_|refine X.I ?_|fail)
  refine ⟨_, ret2 rfl (by rfl) (by rfl), ?_⟩
  exact ⟨rfl, hs12.trans hs3⟩
end Go.Proofs
