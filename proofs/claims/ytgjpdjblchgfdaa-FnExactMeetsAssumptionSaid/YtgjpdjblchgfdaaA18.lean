/- The least of four integers; the order that the conditions imply, the program's. -/
import Derived.Test.YtgjpdjblchgfdaaA17
namespace Go.Fw
open Go Go.RowKit
section
variable {P : Program} {N : Nat} {Q : Exit → Fr → World → Prop} {l : Fr} {w : World} {ops : Array Oper} {K : Fr → World → Prop}
variable {d : Nat} {ty : TypeId} {pos : String} {af : Array Edge} {g : Option (Nat × Bool)}
theorem min_if (a b : Int) : (if b < a then b else a) = min a b := by split <;> omega
theorem o_min4 {x1 x2 x3 x4 : Operand} {tys : Array TypeId} {a b c e : Int} (h1 : ev l x1 = some (.int .i64 a)) (h2 : ev l x2 = some (.int .i64 b)) (h3 : ev l x3 = some (.int .i64 c)) (h4 : ev l x4 = some (.int .i64 e))
    (k : K ((d, .int .i64 (min (min (min a b) c) e)) :: l) w) (hg : wantedL ops l g = some true := by rfl) (hd : Nat.blt d N = true := by rfl) :
    OpW P N ops Q ⟨some d, .call { callee := .builtin .min, args := #[x1, x2, x3, x4], argTypes := tys }, ty, pos, af, g⟩ l w K :=
  OpW.val (fun fr ha => by simp [execOp, resolve, invoke, builtin, Builtin.min_, Builtin.min2, ha.ev h1, ha.ev h2, ha.ev h3, ha.ev h4, min_if]) k hg hd
end
end Go.Fw
namespace Go.Proofs
open Go Go.Fw Go.RowKit Go.Rk
theorem ImpliedOrder_any {lo hi : Nat} {w : World} {v : Value} {x : TabD} (h : IT lo hi w v x) : Does Try.prog 36 [v] w fun r w' => r = .tuple #[.int .i64 (impliedOrder x).1, .int .i64 (impliedOrder x).2] ∧ Chg 0 0 w w' := by
  have hz := h.hi_le
  obtain ⟨va, vb, rfl, hA, hB⟩ := h
  have hT : IT lo hi w (.agg #[va, vb]) x := ⟨_, _, rfl, hA, hB⟩
  refine Does.enter Try.func36 Try.ntmps36 rfl (by rfl) ?_
  repeat' (first | refine WL.step (o_s (by rfl) ?_) | refine WL.step (o_len (by rfl) ?_) | refine WL.step (o_add (by rfl) (by rfl) (by unfold InI; omega) ?_) | refine WL.step (o_sub (by rfl) (by rfl) (by unfold InI; omega) ?_) | refine WL.step (OpW.pass (by rfl) ?_) | refine WL.nil ?_ | refine thenN ?_ | refine WP.region ?_ | refine WP.seq ?_ | refine WP.block ?_ | refine thenR ?_ | refine thenX ?_ | refine blkN ?_ | refine blkHit ?_ | refine blkR ?_ | refine blkMiss (by rfl) ?_ | refine WP.ret ?_ | refine WP.exit ?_ | refine WP.skip ?_ | refine WP.label ?_ | refine WP.condT (by rfl) ?_ | refine WP.condF (by rfl) ?_ | fail)
  refine WL.step (o_box (by rfl) ?_)
  intro w1 hb1 hbl1 hz1
  have hc1 := Chg.of_below hbl1
  replace hT := hT.below hbl1 hz
  repeat' (first | refine WL.step (o_s (by rfl) ?_) | refine WL.step (o_len (by rfl) ?_) | refine WL.step (o_add (by rfl) (by rfl) (by unfold InI; omega) ?_) | refine WL.step (o_sub (by rfl) (by rfl) (by unfold InI; omega) ?_) | refine WL.step (OpW.pass (by rfl) ?_) | refine WL.nil ?_ | refine thenN ?_ | refine WP.region ?_ | refine WP.seq ?_ | refine WP.block ?_ | refine thenR ?_ | refine thenX ?_ | refine blkN ?_ | refine blkHit ?_ | refine blkR ?_ | refine blkMiss (by rfl) ?_ | refine WP.ret ?_ | refine WP.exit ?_ | refine WP.skip ?_ | refine WP.label ?_ | refine WP.condT (by rfl) ?_ | refine WP.condF (by rfl) ?_ | fail)
  refine WL.step (o_loadS (by rfl) hb1 (by rfl) ?_)
  refine WL.call (IsTableau_any hT) ?_
  rintro _ w2 ⟨rfl, hc2⟩
  replace hT := hT.chg hc2 (by omega)
  replace hb1 := hb1.chg0 hc2
  have hz2 := hc2.size
  unfold impliedOrder
  repeat' (first | refine WL.step (o_s (by rfl) ?_) | refine WL.step (o_len (by rfl) ?_) | refine WL.step (o_add (by rfl) (by rfl) (by unfold InI; omega) ?_) | refine WL.step (o_sub (by rfl) (by rfl) (by unfold InI; omega) ?_) | refine WL.step (OpW.pass (by rfl) ?_) | refine WL.nil ?_ | refine thenN ?_ | refine WP.region ?_ | refine WP.seq ?_ | refine WP.block ?_ | refine thenR ?_ | refine thenX ?_ | refine blkN ?_ | refine blkHit ?_ | refine blkR ?_ | refine blkMiss (by rfl) ?_ | refine WP.ret ?_ | refine WP.exit ?_ | refine WP.skip ?_ | refine WP.label ?_ | refine WP.condT (by rfl) ?_ | refine WP.condF (by rfl) ?_ | fail)
  first | refine WP.condD (by rfl) (fun _ => ?_) (fun _ => ?_) | refine WP.condND (by rfl) (fun _ => ?_) (fun _ => ?_) | refine WP.condN (by rfl) (fun _ => ?_) (fun _ => ?_) | refine WP.cond (by rfl) (fun _ => ?_) (fun _ => ?_) | fail
  · rename_i hbad
    repeat' (first | refine WL.step (o_s (by rfl) ?_) | refine WL.step (o_len (by rfl) ?_) | refine WL.step (o_add (by rfl) (by rfl) (by unfold InI; omega) ?_) | refine WL.step (o_sub (by rfl) (by rfl) (by unfold InI; omega) ?_) | refine WL.step (OpW.pass (by rfl) ?_) | refine WL.nil ?_ | refine thenN ?_ | refine WP.region ?_ | refine WP.seq ?_ | refine WP.block ?_ | refine thenR ?_ | refine thenX ?_ | refine blkN ?_ | refine blkHit ?_ | refine blkR ?_ | refine blkMiss (by rfl) ?_ | refine WP.ret ?_ | refine WP.exit ?_ | refine WP.skip ?_ | refine WP.label ?_ | refine WP.condT (by rfl) ?_ | refine WP.condF (by rfl) ?_ | fail)
    refine ⟨_, ret2 rfl (by rfl) (by rfl), ?_⟩
    rw [hbad]
    exact ⟨rfl, hc1.trans hc2⟩
  · rename_i hok
    rw [if_pos hok]
    have hx := isTab_iff hok
    have hc12 := hc1.trans hc2
    have hd0 := condOrder_bd x 0
    have hd1 := condOrder_bd x 1
    have hd2 := condOrder_bd x 2
    repeat' (first | refine WL.step (o_s (by rfl) ?_) | refine WL.step (o_len (by rfl) ?_) | refine WL.step (o_add (by rfl) (by rfl) (by unfold InI; omega) ?_) | refine WL.step (o_sub (by rfl) (by rfl) (by unfold InI; omega) ?_) | refine WL.step (OpW.pass (by rfl) ?_) | refine WL.nil ?_ | refine thenN ?_ | refine WP.region ?_ | refine WP.seq ?_ | refine WP.block ?_ | refine thenR ?_ | refine thenX ?_ | refine blkN ?_ | refine blkHit ?_ | refine blkR ?_ | refine blkMiss (by rfl) ?_ | refine WP.ret ?_ | refine WP.exit ?_ | refine WP.skip ?_ | refine WP.label ?_ | refine WP.condT (by rfl) ?_ | refine WP.condF (by rfl) ?_ | fail)
    refine WL.step (o_loadS (by rfl) hb1 (by rfl) ?_)
    refine WL.call (conditionOrder_any (kind := 1) hT hx (by decide)) ?_
    rintro _ w3 ⟨rfl, hc3⟩
    replace hT := hT.chg hc3 (by omega)
    replace hb1 := hb1.chg0 hc3
    have hz3 := hc3.size
    have hc13 := hc12.trans hc3
    repeat' (first | refine WL.step (o_s (by rfl) ?_) | refine WL.step (o_len (by rfl) ?_) | refine WL.step (o_add (by rfl) (by rfl) (by unfold InI; omega) ?_) | refine WL.step (o_sub (by rfl) (by rfl) (by unfold InI; omega) ?_) | refine WL.step (OpW.pass (by rfl) ?_) | refine WL.nil ?_ | refine thenN ?_ | refine WP.region ?_ | refine WP.seq ?_ | refine WP.block ?_ | refine thenR ?_ | refine thenX ?_ | refine blkN ?_ | refine blkHit ?_ | refine blkR ?_ | refine blkMiss (by rfl) ?_ | refine WP.ret ?_ | refine WP.exit ?_ | refine WP.skip ?_ | refine WP.label ?_ | refine WP.condT (by rfl) ?_ | refine WP.condF (by rfl) ?_ | fail)
    refine WP.drawn (fun w' => Chg 0 0 w3 w') [(0, true), (2, true), (3, true), (4, true), (5, true), (6, true), (1, false), (7, false), (8, true), (9, true), (10, false), (11, true), (12, true)] (by kernel_rfl) mixed ?_
    intro w4 hs4
    have hc4 : Chg 0 0 w3 w4 := Chg.of_still hs4
    refine WS.q rfl (q_loadS (by rfl) (fun w' h => hb1.chg0 h) (by rfl)) hc4 ?_
    repeat' (first | refine WS.q rfl (q_s (by rfl)) (by first | rfl | assumption) ?_ | refine WS.q rfl (q_len (by rfl)) (by first | rfl | assumption) ?_ | refine WS.q rfl (q_add (by rfl) (by rfl) (by unfold InI; omega)) (by first | rfl | assumption) ?_ | refine WS.q rfl (q_sub (by rfl) (by rfl) (by unfold InI; omega)) (by first | rfl | assumption) ?_ | refine WS.q rfl (q_pass (by rfl)) (by first | rfl | assumption) ?_ | refine WS.nil ?_ | fail)
    refine WS.q rfl (q_mul (by rfl) (by rfl) (by unfold InI; omega)) hc4 ?_
    repeat' (first | refine WS.q rfl (q_s (by rfl)) (by first | rfl | assumption) ?_ | refine WS.q rfl (q_len (by rfl)) (by first | rfl | assumption) ?_ | refine WS.q rfl (q_add (by rfl) (by rfl) (by unfold InI; omega)) (by first | rfl | assumption) ?_ | refine WS.q rfl (q_sub (by rfl) (by rfl) (by unfold InI; omega)) (by first | rfl | assumption) ?_ | refine WS.q rfl (q_pass (by rfl)) (by first | rfl | assumption) ?_ | refine WS.nil ?_ | fail)
    refine WS.q rfl (q_loadS (by rfl) (fun w' h => hb1.chg0 h) (by rfl)) hc4 ?_
    refine WS.call rfl (conditionOrder_any (kind := 0) (hT.chg hc4 (by omega)) hx (by decide)) ?_
    rintro _ w5 ⟨rfl, hc5⟩
    have hc35 := hc4.trans hc5
    refine ⟨hc35, ?_⟩
    refine WS.call rfl (conditionOrder_any (kind := 2) (hT.chg hc35 (by omega)) hx (by decide)) ?_
    rintro _ w6 ⟨rfl, hc6⟩
    have hc36 := hc35.trans hc6
    refine ⟨hc36, ?_⟩
    repeat' (first | refine WS.q rfl (q_s (by rfl)) (by first | rfl | assumption) ?_ | refine WS.q rfl (q_len (by rfl)) (by first | rfl | assumption) ?_ | refine WS.q rfl (q_add (by rfl) (by rfl) (by unfold InI; omega)) (by first | rfl | assumption) ?_ | refine WS.q rfl (q_sub (by rfl) (by rfl) (by unfold InI; omega)) (by first | rfl | assumption) ?_ | refine WS.q rfl (q_pass (by rfl)) (by first | rfl | assumption) ?_ | refine WS.nil ?_ | fail)
    refine WS.op rfl (o_min4 (by rfl) (by rfl) (by rfl) (by rfl) ?_)
    refine ⟨hc36, ?_⟩
    repeat' (first | refine WS.q rfl (q_s (by rfl)) (by first | rfl | assumption) ?_ | refine WS.q rfl (q_len (by rfl)) (by first | rfl | assumption) ?_ | refine WS.q rfl (q_add (by rfl) (by rfl) (by unfold InI; omega)) (by first | rfl | assumption) ?_ | refine WS.q rfl (q_sub (by rfl) (by rfl) (by unfold InI; omega)) (by first | rfl | assumption) ?_ | refine WS.q rfl (q_pass (by rfl)) (by first | rfl | assumption) ?_ | refine WS.nil ?_ | fail)
    repeat' (first | refine WL.step (o_s (by rfl) ?_) | refine WL.step (o_len (by rfl) ?_) | refine WL.step (o_add (by rfl) (by rfl) (by unfold InI; omega) ?_) | refine WL.step (o_sub (by rfl) (by rfl) (by unfold InI; omega) ?_) | refine WL.step (OpW.pass (by rfl) ?_) | refine WL.nil ?_ | refine thenN ?_ | refine WP.region ?_ | refine WP.seq ?_ | refine WP.block ?_ | refine thenR ?_ | refine thenX ?_ | refine blkN ?_ | refine blkHit ?_ | refine blkR ?_ | refine blkMiss (by rfl) ?_ | refine WP.ret ?_ | refine WP.exit ?_ | refine WP.skip ?_ | refine WP.label ?_ | refine WP.condT (by rfl) ?_ | refine WP.condF (by rfl) ?_ | fail)
    refine ⟨_, ret2 rfl (by rfl) (by rfl), ?_⟩
    exact ⟨rfl, hc13.trans hc36⟩
end Go.Proofs
