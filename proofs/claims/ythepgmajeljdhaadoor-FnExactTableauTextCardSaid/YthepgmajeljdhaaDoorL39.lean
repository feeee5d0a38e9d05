/- The exact law of the texts of tableaus, walked. -/
import Derived.Test.YthepgmajeljdhaaDoorHB
import Derived.Test.YthepgmajeljdhaaDoorA20
import Derived.Test.YthepgmajeljdhaaDoorZ4
namespace Go.Fw
open Go Go.RowKit Go.Rk
section
variable {P : Program} {N : Nat} {Q : Exit → Fr → World → Prop} {l : Fr} {w : World} {ops : Array Oper} {K : Fr → World → Prop}
variable {d : Nat} {ty : TypeId} {pos : String} {af : Array Edge} {g : Option (Nat × Bool)}
theorem o_neqS {x y : Operand} {t t' : TypeId} {a : List UInt8} (hx : ev l x = some (St a)) (hy : ev l y = some (St a)) (k : K ((d, .bool false) :: l) w)
    (hg : wantedL ops l g = some true := by rfl) (hd : Nat.blt d N = true := by rfl) : OpW P N ops Q ⟨some d, .binOp .neq t x y t', ty, pos, af, g⟩ l w K :=
  OpW.val (fun fr ha => by simp [execOp, ha.ev hx, ha.ev hy, binOp, eqGuard, Op.stringOp]) k hg hd
end
end Go.Fw
namespace Go.Proofs
open Go Go.Fw Go.RowKit Go.Rk
theorem FnExactTableauText_any {w : World} {la0 ha0 : Nat} {va0 : Value} {a0 : TabD} (A0 : IT la0 ha0 w va0 a0) (hT10 : T10 w) : Does Tryd.prog 3 [va0] w fun r w' => r = .bool true ∧ Below w.heap.size w w' := by
  have hA0 := A0.hi_le
  obtain ⟨ad0, nd0, cd0, ae0, ne0, ce0, hv0⟩ := A0.cells
  subst hv0
  refine Does.enter Tryd.func3 Tryd.ntmps3 rfl (by rfl) ?_
  have hB0 : Below w.heap.size w w := Below.refl _ _
  repeat' (first|refine X.O ?_|refine X.A ?_|refine X.B ?_|refine X.C ?_|refine X.D ?_|refine X.E ?_|refine X.F ?_|refine X.G ?_|refine X.H ?_|refine X.I ?_|fail)
  refine WL.step (o_box (by rfl) ?_)
  intro w1 BA0 hbl1 hzz1
  have hc1 := Chg.of_below hbl1
  have hz1 := hc1.size
  have hB1 : Below w.heap.size w w1 := hB0.trans (hc1.below (by omega) (by omega))
  replace A0 := IT.chg A0 hc1 (by omega)
  repeat' (first|refine X.O ?_|refine X.A ?_|refine X.B ?_|refine X.C ?_|refine X.D ?_|refine X.E ?_|refine X.F ?_|refine X.G ?_|refine X.H ?_|refine X.I ?_|fail)
  refine WL.step (o_loadS (by rfl) BA0 (by rfl) ?_)
  repeat' (first|refine X.O ?_|refine X.A ?_|refine X.B ?_|refine X.C ?_|refine X.D ?_|refine X.E ?_|refine X.F ?_|refine X.G ?_|refine X.H ?_|refine X.I ?_|fail)
  refine WL.call (szTableau_any 1048576 A0 (by omega) (by omega)) ?_
  rintro _ w2 ⟨q0, rfl, hq0, hqb0, hc2⟩
  have hz2 := hc2.size
  have hB2 : Below w.heap.size w w2 := hB1.trans (hc2.below (by omega) (by omega))
  replace A0 := IT.chg A0 hc2 (by omega)
  replace BA0 := BA0.chg hc2 (by omega)
  repeat' (first|refine X.O ?_|refine X.A ?_|refine X.B ?_|refine X.C ?_|refine X.D ?_|refine X.E ?_|refine X.F ?_|refine X.G ?_|refine X.H ?_|refine X.I ?_|fail)
  first|refine X.J (fun _ => ?_) (fun _ => ?_)|refine X.L (fun _ => ?_) (fun _ => ?_)|refine X.M (fun _ => ?_) (fun _ => ?_)|refine X.R (fun _ => ?_) (fun _ => ?_)|fail
  · rename_i hbig
    repeat' (first|refine X.O ?_|refine X.A ?_|refine X.B ?_|refine X.C ?_|refine X.D ?_|refine X.E ?_|refine X.F ?_|refine X.G ?_|refine X.H ?_|refine X.I ?_|fail)
    refine ⟨_, ret1 rfl (by rfl), ?_⟩
    exact ⟨rfl, hB2⟩
  rename_i hsm0
  have hn0 := hq0 (by omega)
  have hcn0 := hn0.cnt
  repeat' (first|refine X.O ?_|refine X.A ?_|refine X.B ?_|refine X.C ?_|refine X.D ?_|refine X.E ?_|refine X.F ?_|refine X.G ?_|refine X.H ?_|refine X.I ?_|fail)
  refine WL.step (o_loadS (by rfl) BA0 (by rfl) ?_)
  repeat' (first|refine X.O ?_|refine X.A ?_|refine X.B ?_|refine X.C ?_|refine X.D ?_|refine X.E ?_|refine X.F ?_|refine X.G ?_|refine X.H ?_|refine X.I ?_|fail)
  refine WL.call (toT A0 hn0) ?_
  intro vs0 w3 ⟨s0, hc3⟩
  have hz3 := hc3.size
  have hB3 : Below w.heap.size w w3 := hB2.trans (hc3.below (by omega) (by omega))
  replace A0 := IT.chg A0 hc3 (by omega)
  replace BA0 := BA0.chg hc3 (by omega)
  repeat' (first|refine X.O ?_|refine X.A ?_|refine X.B ?_|refine X.C ?_|refine X.D ?_|refine X.E ?_|refine X.F ?_|refine X.G ?_|refine X.H ?_|refine X.I ?_|fail)
  refine WL.call (sTableauText_any s0.rd) ?_
  rintro _ w4 ⟨rfl, hc4⟩
  have hz4 := hc4.size
  have hB4 : Below w.heap.size w w4 := hB3.trans (hc4.below (by omega) (by omega))
  replace A0 := IT.chg A0 hc4 (by omega)
  replace BA0 := BA0.chg hc4 (by omega)
  replace s0 := s0.chg hc4 (by omega)
  repeat' (first|refine X.O ?_|refine X.A ?_|refine X.B ?_|refine X.C ?_|refine X.D ?_|refine X.E ?_|refine X.F ?_|refine X.G ?_|refine X.H ?_|refine X.I ?_|fail)
  refine WL.step (o_loadS (by rfl) BA0 (by rfl) ?_)
  repeat' (first|refine X.O ?_|refine X.A ?_|refine X.B ?_|refine X.C ?_|refine X.D ?_|refine X.E ?_|refine X.F ?_|refine X.G ?_|refine X.H ?_|refine X.I ?_|fail)
  refine WL.call (toT A0 hn0) ?_
  intro vX0 w5 ⟨X0, hc5⟩
  have hz5 := hc5.size
  have hB5 : Below w.heap.size w w5 := hB4.trans (hc5.below (by omega) (by omega))
  replace A0 := IT.chg A0 hc5 (by omega)
  replace BA0 := BA0.chg hc5 (by omega)
  repeat' (first|refine X.O ?_|refine X.A ?_|refine X.B ?_|refine X.C ?_|refine X.D ?_|refine X.E ?_|refine X.F ?_|refine X.G ?_|refine X.H ?_|refine X.I ?_|fail)
  obtain ⟨b1X0, m1X0, c1X0, b2X0, m2X0, c2X0, hlitX0⟩ := X0.cells
  subst hlitX0
  refine WL.var (vs := [.slice b1X0 m1X0 c1X0, .slice b2X0 m2X0 c2X0]) (fun p => by rfl) rfl two_cells ?_
  intro w6 BX0 hbl6 hzz6
  have hc6 := Chg.of_below hbl6
  have hz6 := hc6.size
  have hB6 : Below w.heap.size w w6 := hB5.trans (hc6.below (by omega) (by omega))
  replace A0 := IT.chg A0 hc6 (by omega)
  replace BA0 := BA0.chg hc6 (by omega)
  replace X0 := X0.chg hc6 (by omega)
  repeat' (first|refine X.O ?_|refine X.A ?_|refine X.B ?_|refine X.C ?_|refine X.D ?_|refine X.E ?_|refine X.F ?_|refine X.G ?_|refine X.H ?_|refine X.I ?_|fail)
  refine WL.step (o_loadS (by rfl) BX0 (by rfl) ?_)
  repeat' (first|refine X.O ?_|refine X.A ?_|refine X.B ?_|refine X.C ?_|refine X.D ?_|refine X.E ?_|refine X.F ?_|refine X.G ?_|refine X.H ?_|refine X.I ?_|fail)
  refine WL.call (TableauText_any X0.rd (hT10.below hB6)) ?_
  rintro _ w7 ⟨rfl, hc7⟩
  have hz7 := hc7.size
  have hB7 : Below w.heap.size w w7 := hB6.trans (hc7.below (by omega) (by omega))
  replace A0 := IT.chg A0 hc7 (by omega)
  replace BA0 := BA0.chg hc7 (by omega)
  replace X0 := X0.chg hc7 (by omega)
  replace BX0 := BX0.chg hc7 (by omega)
  repeat' (first|refine X.O ?_|refine X.A ?_|refine X.B ?_|refine X.C ?_|refine X.D ?_|refine X.E ?_|refine X.F ?_|refine X.G ?_|refine X.H ?_|refine X.I ?_|fail)
  refine WL.step (o_neqS (by rfl) (by rfl) ?_)
  repeat' (first|refine X.O ?_|refine X.A ?_|refine X.B ?_|refine X.C ?_|refine X.D ?_|refine X.E ?_|refine X.F ?_|refine X.G ?_|refine X.H ?_|refine X.I ?_|fail)
  try (refine WP.condD (by rfl) (fun hbad => False.elim (by first | exact hbad rfl | omega)) (fun _ => ?_))
  repeat' (first|refine X.O ?_|refine X.A ?_|refine X.B ?_|refine X.C ?_|refine X.D ?_|refine X.E ?_|refine X.F ?_|refine X.G ?_|refine X.H ?_|refine X.I ?_|fail)
  refine WP.drawn (fun w' => Below w7.heap.size w7 w') [(0, true), (1, true), (2, false), (3, false), (4, true)] (by kernel_rfl) mixed ?_
  intro w8 hst8
  have hc8 := Chg.of_still hst8
  have hS8 : Below w7.heap.size w7 w8 := hst8.below _
  have BX := BX0
  have BA := BA0
  have hz8 := hc8.size
  have hB8 : Below w.heap.size w w8 := hB7.trans (hc8.below (by omega) (by omega))
  replace A0 := IT.chg A0 hc8 (by omega)
  replace BA0 := BA0.chg hc8 (by omega)
  replace X0 := X0.chg hc8 (by omega)
  replace BX0 := BX0.chg hc8 (by omega)
  refine WS.q rfl (q_loadS (by rfl) (fun w' h => BX.below h BX.lt) (by rfl)) hS8 ?_
  refine WS.q rfl (q_loadS (by rfl) (fun w' h => BA.below h BA.lt) (by rfl)) hS8 ?_
  refine WS.call rfl (toT A0 hn0) ?_
  intro vt0 w9 ⟨t0, hc9⟩
  have hz9 := hc9.size
  have hB9 : Below w.heap.size w w9 := hB8.trans (hc9.below (by omega) (by omega))
  replace A0 := IT.chg A0 hc9 (by omega)
  replace BA0 := BA0.chg hc9 (by omega)
  replace X0 := X0.chg hc9 (by omega)
  replace BX0 := BX0.chg hc9 (by omega)
  have hS9 : Below w7.heap.size w7 w9 := hS8.trans (hc9.below (by omega) (by omega))
  refine ⟨hS9, ?_⟩
  refine WS.call rfl (eqT_same X0.rd t0.rd) ?_
  rintro _ w10 ⟨rfl, hc10⟩
  have hz10 := hc10.size
  have hB10 : Below w.heap.size w w10 := hB9.trans (hc10.below (by omega) (by omega))
  replace A0 := IT.chg A0 hc10 (by omega)
  replace BA0 := BA0.chg hc10 (by omega)
  replace X0 := X0.chg hc10 (by omega)
  replace BX0 := BX0.chg hc10 (by omega)
  replace t0 := t0.chg hc10 (by omega)
  have hS10 : Below w7.heap.size w7 w10 := hS9.trans (hc10.below (by omega) (by omega))
  refine ⟨hS10, ?_⟩
  repeat' (first|refine X.U rfl ?_|refine X.V rfl ?_|refine X.W rfl ?_|refine X.Y rfl ?_|refine X.Z rfl ?_|refine WS.nil ?_|fail)
  clear BX BA
  repeat' (first|refine X.O ?_|refine X.A ?_|refine X.B ?_|refine X.C ?_|refine X.D ?_|refine X.E ?_|refine X.F ?_|refine X.G ?_|refine X.H ?_|refine X.I ?_|fail)
  refine ⟨_, ret1 rfl (by rfl), ?_⟩
  exact ⟨rfl, hB10⟩
end Go.Proofs
