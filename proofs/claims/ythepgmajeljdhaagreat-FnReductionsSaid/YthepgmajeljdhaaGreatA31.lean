/- The order of stages that turns one tableau into another: the program's search. -/
import Derived.Test.YthepgmajeljdhaaGreatA5
import Derived.Test.YthepgmajeljdhaaGreatA21
import Derived.Test.YthepgmajeljdhaaGreatHB
import Derived.Test.YthepgmajeljdhaaGreatPlA
namespace Go.Fw
open Go Go.RowKit
section
variable {P : Program} {N : Nat} {Q : Exit → Fr → World → Prop} {l : Fr} {w : World} {ops : Array Oper} {K : Fr → World → Prop}
variable {d : Nat} {ty : TypeId} {pos : String} {af : Array Edge} {g : Option (Nat × Bool)}
/-- x != nil. -/
theorem o_neqNil {t e t' : TypeId} {z : Value} {bytes : Nat} [h : SliceTy P t e z bytes] {x y : Operand} {a : Option Addr} {n c : Nat} (hx : ev l x = some (.slice a n c)) (hy : ev l y = some (.slice none 0 0)) (k : K ((d, .bool (!a.isNone)) :: l) w)
    (hg : wantedL ops l g = some true := by rfl) (hd : Nat.blt d N = true := by rfl) : OpW P N ops Q ⟨some d, .binOp .neq t x y t', ty, pos, af, g⟩ l w K :=
  OpW.val (fun fr ha => by
    have h2 : (Op.equal t (.slice a n c) (.slice none 0 0)).run P w = .ok a.isNone w := by
      have key : ∀ m, (Op.equalIn (m + 1) t (.slice a n c) (.slice none 0 0)).run P w = .ok a.isNone w := fun m => by
        cases a <;> simp [Op.equalIn, run_underlying h.und]
      exact key 9999
    simp [execOp, ha.ev hx, ha.ev hy, binOp, eqGuard, h2]) k hg hd
end
end Go.Fw
namespace Go.Proofs
open Go Go.Fw Go.RowKit Go.Rk
/-- What the search gives: a list of stages of its own, or nil. -/
def Found (B : Nat) (w' : World) (r : Value) : Option (List Int) → Prop
  | some l => Own B 2 w' r (Ints l)
  | none => r = .slice none 0 0
theorem Found.lower {B B' : Nat} {w' : World} {r : Value} {o : Option (List Int)} (h : Found B w' r o) (hB : B' ≤ B) : Found B' w' r o := by
  cases o with
  | none => exact h
  | some l => exact Own.lower h hB
set_option maxHeartbeats 8000000 in
theorem growOrder_any (f : Nat) : ∀ {lo hi lo' hi' B : Nat} {w : World} {v v' vo : Value} {x y : TabD} {order : List Int}, IT lo hi w v x → IT lo' hi' w v' y → Tab x → Tab y → x.2.length = y.2.length → Own B 2 w vo (Ints order) → B ≤ w.heap.size → OrdOk x.2.length order → order.length + f = x.2.length →
    Does Tryz.prog 54 [v, v', vo] w fun r w' => Below w.heap.size w w' ∧ Found B w' r (findG x y f order) := by
  induction f with
  | zero =>
    intro lo hi lo' hi' B w v v' vo x y order h h' hx hy hxy hO hBw hord hlen
    have hz := h.hi_le
    obtain ⟨va, vb, rfl, hA, hB⟩ := h
    obtain ⟨va', vb', rfl, hA', hB'⟩ := h'
    have hT : IT lo hi w (.agg #[va, vb]) x := ⟨_, _, rfl, hA, hB⟩
    obtain ⟨ao, co, hvo, _⟩ := hO.shape
    rw [Ints_length] at hvo
    subst hvo
    refine Does.enter Tryz.func54 Tryz.ntmps54 rfl (by rfl) ?_
    repeat' (first|refine X.O ?_|refine X.A ?_|refine X.B ?_|refine X.C ?_|refine X.D ?_|refine X.E ?_|refine X.F ?_|refine X.G ?_|refine X.H ?_|refine X.I ?_|fail)
    refine WL.step (o_box (by rfl) ?_)
    intro w1 hb1 hbl1 hz1
    refine WL.step (o_box (by rfl) ?_)
    intro w2 hb2 hbl2 hz2
    have hbl12 : Below w.heap.size w w2 := hbl1.trans (Below.mono hbl2 (by omega))
    repeat' (first|refine X.O ?_|refine X.A ?_|refine X.B ?_|refine X.C ?_|refine X.D ?_|refine X.E ?_|refine X.F ?_|refine X.G ?_|refine X.H ?_|refine X.I ?_|fail)
    refine WL.step (o_loadS (by rfl) (hb1.below hbl2 (by omega)) (by rfl) ?_)
    refine WL.call (stages_at (hT.below hbl12 hz)) ?_
    rintro _ w3 ⟨rfl, hc3⟩
    have hbl13 : Below w.heap.size w w3 := hbl12.trans (hc3.below (by have := hbl12.size; omega) (by omega))
    repeat' (first|refine X.O ?_|refine X.A ?_|refine X.B ?_|refine X.C ?_|refine X.D ?_|refine X.E ?_|refine X.F ?_|refine X.G ?_|refine X.H ?_|refine X.I ?_|fail)
    refine WP.condD (by rfl) (fun _ => ?_) (fun hb => absurd hlen (by omega))
    repeat' (first|refine X.O ?_|refine X.A ?_|refine X.B ?_|refine X.C ?_|refine X.D ?_|refine X.E ?_|refine X.F ?_|refine X.G ?_|refine X.H ?_|refine X.I ?_|fail)
    refine ⟨_, ret1 rfl (by rfl), ?_⟩
    exact ⟨hbl13, hO.below hbl13 (Nat.le_refl _)⟩
  | succ f ih =>
  intro lo hi lo' hi' B w v v' vo x y order h h' hx hy hxy hO hBw hord hlen
  have hz := h.hi_le
  have hz' := h'.hi_le
  obtain ⟨va, vb, rfl, hA, hB⟩ := h
  obtain ⟨va', vb', rfl, hA', hB'⟩ := h'
  have hT : IT lo hi w (.agg #[va, vb]) x := ⟨_, _, rfl, hA, hB⟩
  have hT' : IT lo' hi' w (.agg #[va', vb']) y := ⟨_, _, rfl, hA', hB'⟩
  have hm := hx.le8
  have hsq := hx.sq
  have hsq' := hy.sq
  have hOr : IS B w.heap.size w vo order := Own.toIS hO (Nat.le_refl _)
  obtain ⟨ao, co, hvo⟩ := hOr.shape
  subst hvo
  have hnx : order.length < x.2.length := by omega
  have hny : order.length < y.2.length := by omega
  have hnya : order.length < y.1.length := by omega
  have hrowYn := hy.row _ (List.getElem_mem hnya)
  refine Does.enter Tryz.func54 Tryz.ntmps54 rfl (by rfl) ?_
  repeat' (first|refine X.O ?_|refine X.A ?_|refine X.B ?_|refine X.C ?_|refine X.D ?_|refine X.E ?_|refine X.F ?_|refine X.G ?_|refine X.H ?_|refine X.I ?_|fail)
  refine WL.step (o_box (by rfl) ?_)
  intro w1 hb1 hbl1 hz1
  refine WL.step (o_box (by rfl) ?_)
  intro w2 hb2 hbl2 hz2
  have hbl12 : Below w.heap.size w w2 := hbl1.trans (Below.mono hbl2 (by omega))
  replace hb1 := hb1.below hbl2 (by omega)
  repeat' (first|refine X.O ?_|refine X.A ?_|refine X.B ?_|refine X.C ?_|refine X.D ?_|refine X.E ?_|refine X.F ?_|refine X.G ?_|refine X.H ?_|refine X.I ?_|fail)
  refine WL.step (o_loadS (by rfl) hb1 (by rfl) ?_)
  refine WL.call (stages_at (hT.below hbl12 hz)) ?_
  rintro _ w3 ⟨rfl, hc3⟩
  have hz3 := hc3.size
  have hbl13 : Below w.heap.size w w3 := hbl12.trans (hc3.below (by omega) (by omega))
  replace hb1 := hb1.chg0 hc3
  replace hb2 := hb2.chg0 hc3
  repeat' (first|refine X.O ?_|refine X.A ?_|refine X.B ?_|refine X.C ?_|refine X.D ?_|refine X.E ?_|refine X.F ?_|refine X.G ?_|refine X.H ?_|refine X.I ?_|fail)
  refine WP.condD (by rfl) (fun hb => absurd hlen (by omega)) (fun _ => ?_)
  repeat' (first|refine X.O ?_|refine X.A ?_|refine X.B ?_|refine X.C ?_|refine X.D ?_|refine X.E ?_|refine X.F ?_|refine X.G ?_|refine X.H ?_|refine X.I ?_|fail)
  refine WL.step (o_loadS (by rfl) hb1 (by rfl) ?_)
  refine WL.call (stages_at (hT.below hbl13 hz)) ?_
  rintro _ w4 ⟨rfl, hc4⟩
  have hz4 := hc4.size
  have hbl14 : Below w.heap.size w w4 := hbl13.trans (hc4.below (by omega) (by omega))
  replace hb1 := hb1.chg0 hc4
  replace hb2 := hb2.chg0 hc4
  obtain ⟨G, hG⟩ : ∃ G : Nat → Option (List Int), (fun i => if fits x y order i = true then findG x y f (order ++ [(i : Int)]) else none) = G := ⟨_, rfl⟩
  have hfg : findG x y (f + 1) order = firstSome G 0 x.2.length := by rw [findG, hG]
  have hGno : ∀ i, fits x y order i = false → G i = none := fun i h => by subst hG; simp only [h]; rfl
  have hGyes : ∀ i, fits x y order i = true → G i = findG x y f (order ++ [(i : Int)]) := fun i h => by subst hG; simp only [h]; rfl
  repeat' (first|refine X.O ?_|refine X.A ?_|refine X.B ?_|refine X.C ?_|refine X.D ?_|refine X.E ?_|refine X.F ?_|refine X.G ?_|refine X.H ?_|refine X.I ?_|fail)
  refine WP.loop (fun (i : Nat) => [(2, .slice ao order.length co), (3, .pointer (some ⟨w.heap.size, 0, none⟩)), (4, .pointer (some ⟨w1.heap.size, 0, none⟩)), (7, .int .i64 (order.length : Nat)), (21, .int .i64 (x.2.length : Nat)), (22, .int .i64 (i : Nat))])
    (fun i w5 => i ≤ x.2.length ∧ findG x y (f + 1) order = firstSome G i (x.2.length - i) ∧ Below w4.heap.size w4 w5)
    (fun i => x.2.length - i) 0 ⟨rfl, rfl, rfl, rfl, rfl, rfl, trivial⟩ ⟨by omega, hfg, Below.refl _ _⟩ ?_
  rintro i w5 ⟨hi1, hfs, hbl5⟩
  have hz5 := hbl5.size
  have hblw5 : Below w.heap.size w w5 := hbl14.trans (Below.mono hbl5 (by omega))
  repeat' (first|refine X.O ?_|refine X.A ?_|refine X.B ?_|refine X.C ?_|refine X.D ?_|refine X.E ?_|refine X.F ?_|refine X.G ?_|refine X.H ?_|refine X.I ?_|fail)
  first|refine X.J (fun _ => ?_) (fun _ => ?_)|refine X.L (fun _ => ?_) (fun _ => ?_)|refine X.M (fun _ => ?_) (fun _ => ?_)|refine X.R (fun _ => ?_) (fun _ => ?_)|fail
  · rename_i hlt
    have hli : i < x.2.length := by omega
    have hlia : i < x.1.length := by omega
    have hrowXi := hx.row _ (List.getElem_mem hlia)
    rw [show x.2.length - i = (x.2.length - (i + 1)) + 1 from by omega] at hfs
    have hb5 := hb1.below hbl5 (by omega)
    have hb5' := hb2.below hbl5 (by omega)
    have hA5 := hA.below IS.stable hblw5 hz
    have hB5 := hB.below RI.stable hblw5 hz
    have hA5' := hA'.below IS.stable hblw5 hz'
    have hB5' := hB'.below RI.stable hblw5 hz'
    have hO5 := hOr.below RI.stable hblw5 (Nat.le_refl _)
    have e1 : fit1 x y i order.length = decide (x.2[i] = y.2[order.length]) := by
      unfold fit1; rw [List.getElem?_eq_getElem hli, List.getElem?_eq_getElem hny]; rfl
    have e2 : fit2 x y i order.length = decide (x.1[i][i]'(by omega) = y.1[order.length][order.length]'(by omega)) := by
      unfold fit2; rw [at2_eq hlia (by omega), at2_eq hnya (by omega)]
    repeat' (first|refine X.O ?_|refine X.A ?_|refine X.B ?_|refine X.C ?_|refine X.D ?_|refine X.E ?_|refine X.F ?_|refine X.G ?_|refine X.H ?_|refine X.I ?_|fail)
    refine WP.drawn (fun w' => w'.heap = w5.heap) [(0, true), (1, true), (2, false), (3, true), (4, true), (5, true), (6, true), (7, true), (8, true), (9, true), (10, true), (11, true), (12, true), (13, true), (14, true), (15, true), (16, true), (17, true), (18, true), (19, true), (20, true), (21, true), (22, true), (23, true), (24, true), (25, true), (26, true), (27, true), (28, true), (29, true), (30, true), (31, true), (32, true), (33, true), (34, true)] (by kernel_rfl) mixed ?_
    intro w6 hs6
    have hw6 : w6.heap = w5.heap := hs6.heap
    repeat' (first|refine X.Z rfl ?_|refine X.U rfl ?_|refine WS.nil ?_|fail)
    refine WS.call rfl (Contains_any (xs := order) (i : Int) (hO5.still RI.stable hs6)) ?_
    rintro _ w7 ⟨rfl, hs7⟩
    have hw7 : w7.heap = w5.heap := hs7.heap.trans hw6
    have hs57 := hs6.trans hs7
    refine ⟨hw7, ?_⟩
    have hbl57 : Below w4.heap.size w4 w7 := hbl5.trans (hs57.below _)
    repeat' (first|refine X.Z rfl ?_|refine X.U rfl ?_|refine WS.nil ?_|fail)
    refine WS.splitD (t := 28) (by rfl) (fun hmem => ?_) (fun hnm => ?_)
    · repeat' (first|refine X.Z rfl ?_|refine X.U rfl ?_|refine WS.nil ?_|fail)
      repeat' (first|refine X.O ?_|refine X.A ?_|refine X.B ?_|refine X.C ?_|refine X.D ?_|refine X.E ?_|refine X.F ?_|refine X.G ?_|refine X.H ?_|refine X.I ?_|fail)
      exact ⟨i + 1, ⟨rfl, rfl, rfl, rfl, rfl, (by first|rfl|exact X.T (by omega)), trivial⟩, ⟨by omega, by rw [hfs, firstSome_none (hGno i (fits_has hmem))], hbl57⟩, by omega⟩
    repeat' (first|refine X.Z rfl ?_|refine X.U rfl ?_|refine WS.nil ?_|fail)
    refine WS.fld rfl rfl (fun w' h => hb5.keep (by rw [h])) hw7 ?_
    intro p1
    repeat' (first|refine X.Z rfl ?_|refine X.U rfl ?_|refine WS.nil ?_|fail)
    refine WS.ixload rfl rfl (hB5.still RI.stable hs57) (List.getElem?_eq_getElem hli) (fun w' hw' => same_heap (hw'.trans hw7.symm)) hw7 ?_
    rintro p2 _ rfl
    refine WS.fld rfl rfl (fun w' h => hb5'.keep (by rw [h])) hw7 ?_
    intro p3
    repeat' (first|refine X.Z rfl ?_|refine X.U rfl ?_|refine WS.nil ?_|fail)
    refine WS.ixload rfl rfl (hB5'.still RI.stable hs57) (List.getElem?_eq_getElem hny) (fun w' hw' => same_heap (hw'.trans hw7.symm)) hw7 ?_
    rintro p4 _ rfl
    repeat' (first|refine X.Z rfl ?_|refine X.U rfl ?_|refine WS.nil ?_|fail)
    refine WS.splitD (t := 41) (by rfl) (fun hne1 => ?_) (fun heq1 => ?_)
    · repeat' (first|refine X.Z rfl ?_|refine X.U rfl ?_|refine WS.nil ?_|fail)
      repeat' (first|refine X.O ?_|refine X.A ?_|refine X.B ?_|refine X.C ?_|refine X.D ?_|refine X.E ?_|refine X.F ?_|refine X.G ?_|refine X.H ?_|refine X.I ?_|fail)
      exact ⟨i + 1, ⟨rfl, rfl, rfl, rfl, rfl, (by first|rfl|exact X.T (by omega)), trivial⟩, ⟨by omega, by rw [hfs, firstSome_none (hGno i (fits_1 (by rw [e1]; exact decide_eq_false hne1)))], hbl57⟩, by omega⟩
    rw [decide_eq_true (Decidable.not_not.1 heq1)] at e1
    repeat' (first|refine X.Z rfl ?_|refine X.U rfl ?_|refine WS.nil ?_|fail)
    refine WS.fld rfl rfl (fun w' h => hb5.keep (by rw [h])) hw7 ?_
    intro p5
    repeat' (first|refine X.Z rfl ?_|refine X.U rfl ?_|refine WS.nil ?_|fail)
    refine WS.ixload rfl rfl (hA5.still IS.stable hs57) (List.getElem?_eq_getElem hlia) (fun w' hw' => same_heap (hw'.trans hw7.symm)) hw7 ?_
    intro p6 u1 hu1
    repeat' (first|refine X.Z rfl ?_|refine X.U rfl ?_|refine WS.nil ?_|fail)
    refine WS.ixload (j := i) rfl rfl hu1 (List.getElem?_eq_getElem (by omega)) (fun w' hw' => same_heap (hw'.trans hw7.symm)) hw7 ?_
    rintro p7 _ rfl
    refine WS.fld rfl rfl (fun w' h => hb5'.keep (by rw [h])) hw7 ?_
    intro p8
    repeat' (first|refine X.Z rfl ?_|refine X.U rfl ?_|refine WS.nil ?_|fail)
    refine WS.ixload rfl rfl (hA5'.still IS.stable hs57) (List.getElem?_eq_getElem hnya) (fun w' hw' => same_heap (hw'.trans hw7.symm)) hw7 ?_
    intro p9 u2 hu2
    repeat' (first|refine X.Z rfl ?_|refine X.U rfl ?_|refine WS.nil ?_|fail)
    refine WS.ixload (j := order.length) rfl rfl hu2 (List.getElem?_eq_getElem (by omega)) (fun w' hw' => same_heap (hw'.trans hw7.symm)) hw7 ?_
    rintro p10 _ rfl
    repeat' (first|refine X.Z rfl ?_|refine X.U rfl ?_|refine WS.nil ?_|fail)
    repeat' (first|refine X.O ?_|refine X.A ?_|refine X.B ?_|refine X.C ?_|refine X.D ?_|refine X.E ?_|refine X.F ?_|refine X.G ?_|refine X.H ?_|refine X.I ?_|fail)
    first|refine X.J (fun _ => ?_) (fun _ => ?_)|refine X.L (fun _ => ?_) (fun _ => ?_)|refine X.M (fun _ => ?_) (fun _ => ?_)|refine X.R (fun _ => ?_) (fun _ => ?_)|fail
    · rename_i hne2
      repeat' (first|refine X.O ?_|refine X.A ?_|refine X.B ?_|refine X.C ?_|refine X.D ?_|refine X.E ?_|refine X.F ?_|refine X.G ?_|refine X.H ?_|refine X.I ?_|fail)
      exact ⟨i + 1, ⟨rfl, rfl, rfl, rfl, rfl, (by first|rfl|exact X.T (by omega)), trivial⟩, ⟨by omega, by rw [hfs, firstSome_none (hGno i (fits_2 (by rw [e2]; exact decide_eq_false hne2)))], hbl57⟩, by omega⟩
    rename_i heq2
    rw [decide_eq_true (Decidable.not_not.1 heq2)] at e2
    have hfa := fits_all hnm e1 e2
    have hA7 := hA5.still IS.stable hs57
    have hA7' := hA5'.still IS.stable hs57
    have hO7 := hO5.still RI.stable hs57
    have hb7 := hb5.still hs57
    have hb7' := hb5'.still hs57
    have hz7 := hs57.size
    repeat' (first|refine X.O ?_|refine X.A ?_|refine X.B ?_|refine X.C ?_|refine X.D ?_|refine X.E ?_|refine X.F ?_|refine X.G ?_|refine X.H ?_|refine X.I ?_|fail)
    refine WP.loop (fun (k : Nat) => [(2, .slice ao order.length co), (3, .pointer (some ⟨w.heap.size, 0, none⟩)), (4, .pointer (some ⟨w1.heap.size, 0, none⟩)), (7, .int .i64 (order.length : Nat)), (8, .int .i64 (i : Nat)), (9, .bool ((List.range k).all (fitK x y order i))), (21, .int .i64 (x.2.length : Nat)), (22, .int .i64 (i : Nat)), (60, .slice ao order.length co), (61, .int .i64 (order.length : Nat)), (62, .int .i64 (k : Nat))])
      (fun k w8 => k ≤ order.length ∧ Still w7 w8)
      (fun k => order.length - k) 0 ⟨rfl, rfl, rfl, rfl, rfl, rfl, rfl, rfl, rfl, rfl, rfl, trivial⟩ ⟨by omega, Still.refl _⟩ ?_
    rintro k w8 ⟨hk, hs8⟩
    repeat' (first|refine X.O ?_|refine X.A ?_|refine X.B ?_|refine X.C ?_|refine X.D ?_|refine X.E ?_|refine X.F ?_|refine X.G ?_|refine X.H ?_|refine X.I ?_|fail)
    first|refine X.J (fun _ => ?_) (fun _ => ?_)|refine X.L (fun _ => ?_) (fun _ => ?_)|refine X.M (fun _ => ?_) (fun _ => ?_)|refine X.R (fun _ => ?_) (fun _ => ?_)|fail
    · rename_i hltk
      have hlk : k < order.length := by omega
      have hok := hord.get hlk
      have hoka : order[k].toNat < x.1.length := by omega
      have hkya : k < y.1.length := by omega
      have hrowXo := hx.row _ (List.getElem_mem hoka)
      have hrowYk := hy.row _ (List.getElem_mem hkya)
      have ea : fitA x y order i k = decide (x.1[i][order[k].toNat]'(by omega) = y.1[order.length][k]'(by omega)) := by
        unfold fitA; rw [List.getElem?_eq_getElem hlk, Option.getD_some, at2_eq hlia (by omega), at2_eq hnya (by omega)]
      have eb : fitB x y order i k = decide (x.1[order[k].toNat][i]'(by omega) = y.1[k][order.length]'(by omega)) := by
        unfold fitB; rw [List.getElem?_eq_getElem hlk, Option.getD_some, at2_eq hoka (by omega), at2_eq hkya (by omega)]
      have hsc : (List.range (k + 1)).all (fitK x y order i) = ((List.range k).all (fitK x y order i) && (fitA x y order i k && fitB x y order i k)) := all_range_succ
      repeat' (first|refine X.O ?_|refine X.A ?_|refine X.B ?_|refine X.C ?_|refine X.D ?_|refine X.E ?_|refine X.F ?_|refine X.G ?_|refine X.H ?_|refine X.I ?_|fail)
      refine WL.ixload (xs := order) (hO7.still RI.stable hs8) (List.getElem?_eq_getElem hlk) ?_
      rintro p11 _ rfl
      repeat' (first|refine X.O ?_|refine X.A ?_|refine X.B ?_|refine X.C ?_|refine X.D ?_|refine X.E ?_|refine X.F ?_|refine X.G ?_|refine X.H ?_|refine X.I ?_|fail)
      refine WP.drawn (fun w' => w'.heap = w8.heap) [(0, true), (1, true), (2, true), (3, true), (4, true), (5, true), (6, true), (7, true), (8, true), (9, true), (10, true), (11, true), (12, true), (13, true), (14, true), (15, true), (16, true), (17, true), (18, true), (19, true), (20, true), (21, true), (22, true), (23, true), (24, true), (25, true), (26, true), (27, true), (28, true), (29, true), (30, true), (31, true), (32, true), (33, true), (34, true), (35, true), (36, true), (37, true), (38, true), (39, true)] (by kernel_rfl) mixed ?_
      intro w9 hs9
      have hw9 : w9.heap = w8.heap := hs9.heap
      have hs79 := hs8.trans hs9
      have hA9 := hA7.still IS.stable hs79
      have hA9' := hA7'.still IS.stable hs79
      have hb9 := hb7.still hs8
      have hb9' := hb7'.still hs8
      repeat' (first|refine X.Z rfl ?_|refine X.U rfl ?_|refine WS.nil ?_|fail)
      refine WS.split (t := 68) (by rfl) (fun hft => ?_) (fun hff => ?_)
      · rw [hft, Bool.true_and] at hsc
        repeat' (first|refine X.Z rfl ?_|refine X.U rfl ?_|refine WS.nil ?_|fail)
        refine WS.fld rfl rfl (fun w' h => hb9.keep (by rw [h])) hw9 ?_
        intro q1
        repeat' (first|refine X.Z rfl ?_|refine X.U rfl ?_|refine WS.nil ?_|fail)
        refine WS.ixload rfl rfl hA9 (List.getElem?_eq_getElem hlia) (fun w' hw' => same_heap (hw'.trans hw9.symm)) hw9 ?_
        intro q2 u3 hu3
        repeat' (first|refine X.Z rfl ?_|refine X.U rfl ?_|refine WS.nil ?_|fail)
        refine WS.ixload (j := order[k].toNat) rfl rfl hu3 (List.getElem?_eq_getElem (by omega)) (fun w' hw' => same_heap (hw'.trans hw9.symm)) hw9 ?_
        rintro q3 _ rfl
        refine WS.fld rfl rfl (fun w' h => hb9'.keep (by rw [h])) hw9 ?_
        intro q4
        repeat' (first|refine X.Z rfl ?_|refine X.U rfl ?_|refine WS.nil ?_|fail)
        refine WS.ixload rfl rfl hA9' (List.getElem?_eq_getElem hnya) (fun w' hw' => same_heap (hw'.trans hw9.symm)) hw9 ?_
        intro q5 u4 hu4
        repeat' (first|refine X.Z rfl ?_|refine X.U rfl ?_|refine WS.nil ?_|fail)
        refine WS.ixload (j := k) rfl rfl hu4 (List.getElem?_eq_getElem (by omega)) (fun w' hw' => same_heap (hw'.trans hw9.symm)) hw9 ?_
        rintro q6 _ rfl
        repeat' (first|refine X.Z rfl ?_|refine X.U rfl ?_|refine WS.nil ?_|fail)
        refine WS.splitD (t := 87) (by rfl) (fun hfa1 => ?_) (fun hfa0 => ?_)
        · rw [ea, decide_eq_true hfa1, Bool.true_and, eb] at hsc
          repeat' (first|refine X.Z rfl ?_|refine X.U rfl ?_|refine WS.nil ?_|fail)
          refine WS.fld rfl rfl (fun w' h => hb9.keep (by rw [h])) hw9 ?_
          intro q7
          repeat' (first|refine X.Z rfl ?_|refine X.U rfl ?_|refine WS.nil ?_|fail)
          refine WS.ixload (j := order[k].toNat) rfl rfl hA9 (List.getElem?_eq_getElem hoka) (fun w' hw' => same_heap (hw'.trans hw9.symm)) hw9 ?_
          intro q8 u5 hu5
          repeat' (first|refine X.Z rfl ?_|refine X.U rfl ?_|refine WS.nil ?_|fail)
          refine WS.ixload (j := i) rfl rfl hu5 (List.getElem?_eq_getElem (by omega)) (fun w' hw' => same_heap (hw'.trans hw9.symm)) hw9 ?_
          rintro q9 _ rfl
          refine WS.fld rfl rfl (fun w' h => hb9'.keep (by rw [h])) hw9 ?_
          intro q10
          repeat' (first|refine X.Z rfl ?_|refine X.U rfl ?_|refine WS.nil ?_|fail)
          refine WS.ixload rfl rfl hA9' (List.getElem?_eq_getElem hkya) (fun w' hw' => same_heap (hw'.trans hw9.symm)) hw9 ?_
          intro q11 u6 hu6
          repeat' (first|refine X.Z rfl ?_|refine X.U rfl ?_|refine WS.nil ?_|fail)
          refine WS.ixload (j := order.length) rfl rfl hu6 (List.getElem?_eq_getElem (by omega)) (fun w' hw' => same_heap (hw'.trans hw9.symm)) hw9 ?_
          rintro q12 _ rfl
          repeat' (first|refine X.Z rfl ?_|refine X.U rfl ?_|refine WS.nil ?_|fail)
          repeat' (first|refine X.O ?_|refine X.A ?_|refine X.B ?_|refine X.C ?_|refine X.D ?_|refine X.E ?_|refine X.F ?_|refine X.G ?_|refine X.H ?_|refine X.I ?_|fail)
          exact ⟨k + 1, ⟨rfl, rfl, rfl, rfl, rfl, (by rw [hsc]; rfl), rfl, rfl, rfl, rfl, (by first|rfl|exact X.T (by omega)), trivial⟩, ⟨by omega, hs79⟩, by omega⟩
        · rw [ea, decide_eq_false hfa0, Bool.false_and] at hsc
          repeat' (first|refine X.Z rfl ?_|refine X.U rfl ?_|refine WS.nil ?_|fail)
          repeat' (first|refine X.O ?_|refine X.A ?_|refine X.B ?_|refine X.C ?_|refine X.D ?_|refine X.E ?_|refine X.F ?_|refine X.G ?_|refine X.H ?_|refine X.I ?_|fail)
          exact ⟨k + 1, ⟨rfl, rfl, rfl, rfl, rfl, (by rw [hsc]; rfl), rfl, rfl, rfl, rfl, (by first|rfl|exact X.T (by omega)), trivial⟩, ⟨by omega, hs79⟩, by omega⟩
      · rw [hff, Bool.false_and] at hsc
        repeat' (first|refine X.Z rfl ?_|refine X.U rfl ?_|refine WS.nil ?_|fail)
        repeat' (first|refine X.O ?_|refine X.A ?_|refine X.B ?_|refine X.C ?_|refine X.D ?_|refine X.E ?_|refine X.F ?_|refine X.G ?_|refine X.H ?_|refine X.I ?_|fail)
        exact ⟨k + 1, ⟨rfl, rfl, rfl, rfl, rfl, (by rw [hsc]; rfl), rfl, rfl, rfl, rfl, (by first|rfl|exact X.T (by omega)), trivial⟩, ⟨by omega, hs79⟩, by omega⟩
    · rename_i hgek
      have hke : k = order.length := by omega
      subst hke
      have hbl58 : Below w4.heap.size w4 w8 := hbl57.trans (hs8.below _)
      repeat' (first|refine X.O ?_|refine X.A ?_|refine X.B ?_|refine X.C ?_|refine X.D ?_|refine X.E ?_|refine X.F ?_|refine X.G ?_|refine X.H ?_|refine X.I ?_|fail)
      first|refine X.J (fun _ => ?_) (fun _ => ?_)|refine X.L (fun _ => ?_) (fun _ => ?_)|refine X.M (fun _ => ?_) (fun _ => ?_)|refine X.R (fun _ => ?_) (fun _ => ?_)|fail
      · rename_i hff
        rw [← hfa] at hff
        repeat' (first|refine X.O ?_|refine X.A ?_|refine X.B ?_|refine X.C ?_|refine X.D ?_|refine X.E ?_|refine X.F ?_|refine X.G ?_|refine X.H ?_|refine X.I ?_|fail)
        exact ⟨i + 1, ⟨rfl, rfl, rfl, rfl, rfl, (by first|rfl|exact X.T (by omega)), trivial⟩, ⟨by omega, by rw [hfs, firstSome_none (hGno i hff)], hbl58⟩, by omega⟩
      rename_i hft
      rw [← hfa] at hft
      have hGi := hGyes i hft
      have hz8 := hbl58.size
      have hblw8 : Below w.heap.size w w8 := hbl14.trans (Below.mono hbl58 (by omega))
      have hT8 := hT.below hblw8 hz
      have hT8' := hT'.below hblw8 hz'
      have hO8 : IS B w.heap.size w8 (.slice ao order.length co) order := hOr.below RI.stable hblw8 (Nat.le_refl _)
      have hb8 := hb7.still hs8
      have hb8' := hb7'.still hs8
      have hordS := hord.snoc hli
      repeat' (first|refine X.O ?_|refine X.A ?_|refine X.B ?_|refine X.C ?_|refine X.D ?_|refine X.E ?_|refine X.F ?_|refine X.G ?_|refine X.H ?_|refine X.I ?_|fail)
      refine WP.mid (fun l' w' => ∃ r, Agree l' [(2, .slice ao order.length co), (3, .pointer (some ⟨w.heap.size, 0, none⟩)), (4, .pointer (some ⟨w1.heap.size, 0, none⟩)), (7, .int .i64 (order.length : Nat)), (12, r), (21, .int .i64 (x.2.length : Nat)), (22, .int .i64 (i : Nat))] ∧ Below w8.heap.size w8 w' ∧ Found w8.heap.size w' r (findG x y f (order ++ [(i : Int)]))) ?_ ?_
      · refine WP.forked (fun w' => Below w8.heap.size w8 w') (.q 0 (.q 1 (.q 2 (.q 4 (.two 3 (.o 5 (.o 6 (.o 7 (.q 8 .nil)))) 5 (.o 3 (.o 6 (.o 7 (.q 8 .nil))))))))) (by kernel_rfl) mixed ?_
        intro u0 hu0
        have hS0 : Below w8.heap.size w8 u0 := hu0.below _
        have hzu0 := hu0.size
        refine WT.q rfl (q_loadS (by rfl) (fun w' h => hb8.below h (by omega)) (by rfl)) hS0 ?_
        refine WT.q rfl (q_loadS (by rfl) (fun w' h => hb8'.below h (by omega)) (by rfl)) hS0 ?_
        refine WT.q rfl (q_s (by rfl)) hS0 ?_
        refine WT.q rfl (q_s (by rfl)) hS0 ?_
        refine WT.two rfl rfl (o_call (Clone_any (hO8.still RI.stable hu0) (by omega)) ?_) (o_lit (us := [.int .i64 (i : Nat)]) (by rfl) (by rfl) rfl (by decide) (one1 rfl) ?_)
        · intro v1 u1 hN1
          have hzu1 := hN1.2.size
          have hS1 : Below w8.heap.size w8 u1 := hS0.trans (Below.mono hN1.2 (by omega))
          refine ⟨hS1, ?_⟩
          refine WT.o rfl (o_lit (us := [.int .i64 (i : Nat)]) (by rfl) (by rfl) rfl (by decide) (one1 rfl) ?_)
          intro v2 u2 hown2 hblu2 hzu2 _
          have hS2 : Below w8.heap.size w8 u2 := hS1.trans (Below.mono hblu2 (by omega))
          refine ⟨hS2, ?_⟩
          refine WT.o rfl (o_append (us := Ints order) (news := [.int .i64 (i : Nat)]) (by rfl) (by rfl) (hN1.1.below hblu2 (Nat.le_refl _)) hown2.src (one1 rfl) (by simp [Ints, maxLen]; omega) (by simp [Ints]; omega) (by omega) ?_)
          intro v3 u3 hown3 hg3 hblu3 _
          have hzu3 := hg3.size
          have hS3 : Below w8.heap.size w8 u3 := hS2.trans (Below.mono hblu3 (by omega))
          refine ⟨hS3, ?_⟩
          have hown3' : Own w8.heap.size 2 u3 v3 (Ints (order ++ [(i : Int)])) := by rw [Ints_append]; exact hown3.lower (by omega)
          refine WT.o rfl (o_call (ih (hT8.below hS3 (by omega)) (hT8'.below hS3 (by omega)) hx hy hxy hown3' (by omega) hordS (by simp; omega)) ?_)
          rintro r u4 ⟨hblu4, hfd⟩
          have hS4 : Below w8.heap.size w8 u4 := hS3.trans (Below.mono hblu4 (by omega))
          refine ⟨hS4, ?_⟩
          refine WT.q rfl (q_s (by rfl)) hS4 ?_
          exact WT.nil (thenN ⟨r, ⟨rfl, rfl, rfl, rfl, rfl, rfl, rfl, trivial⟩, hS4, hfd⟩)
        · intro v2 u2 hown2 hblu2 hzu2 _
          have hS2 : Below w8.heap.size w8 u2 := hS0.trans (Below.mono hblu2 (by omega))
          refine ⟨hS2, ?_⟩
          refine WT.o rfl (o_call (Clone_any (hO8.below RI.stable hS2 (by omega)) (by omega)) ?_)
          intro v1 u1 hN1
          have hzu1 := hN1.2.size
          have hS1 : Below w8.heap.size w8 u1 := hS2.trans (Below.mono hN1.2 (by omega))
          refine ⟨hS1, ?_⟩
          refine WT.o rfl (o_append (us := Ints order) (news := [.int .i64 (i : Nat)]) (by rfl) (by rfl) hN1.1 (hown2.below hN1.2 (Nat.le_refl _)).src (one1 rfl) (by simp [Ints, maxLen]; omega) (by simp [Ints]; omega) (by omega) ?_)
          intro v3 u3 hown3 hg3 hblu3 _
          have hzu3 := hg3.size
          have hS3 : Below w8.heap.size w8 u3 := hS1.trans (Below.mono hblu3 (by omega))
          refine ⟨hS3, ?_⟩
          have hown3' : Own w8.heap.size 2 u3 v3 (Ints (order ++ [(i : Int)])) := by rw [Ints_append]; exact hown3.lower (by omega)
          refine WT.o rfl (o_call (ih (hT8.below hS3 (by omega)) (hT8'.below hS3 (by omega)) hx hy hxy hown3' (by omega) hordS (by simp; omega)) ?_)
          rintro r u4 ⟨hblu4, hfd⟩
          have hS4 : Below w8.heap.size w8 u4 := hS3.trans (Below.mono hblu4 (by omega))
          refine ⟨hS4, ?_⟩
          refine WT.q rfl (q_s (by rfl)) hS4 ?_
          exact WT.nil (thenN ⟨r, ⟨rfl, rfl, rfl, rfl, rfl, rfl, rfl, trivial⟩, hS4, hfd⟩)
      rintro l9 w9 ⟨r, hag, hbl9, hfd⟩
      refine WP.frame _ hag ?_
      clear hag
      rw [← hGi] at hfd
      have hbl49 : Below w4.heap.size w4 w9 := hbl58.trans (Below.mono hbl9 hz8)
      cases hgi : G i with
      | none =>
        rw [hgi] at hfd
        unfold Found at hfd
        subst hfd
        repeat' (first|refine X.O ?_|refine X.A ?_|refine X.B ?_|refine X.C ?_|refine X.D ?_|refine X.E ?_|refine X.F ?_|refine X.G ?_|refine X.H ?_|refine X.I ?_|fail)
        refine WL.step (o_neqNil (by rfl) (by rfl) ?_)
        repeat' (first|refine X.O ?_|refine X.A ?_|refine X.B ?_|refine X.C ?_|refine X.D ?_|refine X.E ?_|refine X.F ?_|refine X.G ?_|refine X.H ?_|refine X.I ?_|fail)
        exact ⟨i + 1, ⟨rfl, rfl, rfl, rfl, rfl, (by first|rfl|exact X.T (by omega)), trivial⟩, ⟨by omega, by rw [hfs, firstSome_none hgi], hbl49⟩, by omega⟩
      | some l =>
        rw [hgi] at hfd
        have hll : l ≠ [] := fun e => by
          have hG2 := hGi
          rw [hgi] at hG2
          have := findG_len hG2.symm
          rw [e, List.length_append, List.length_nil, List.length_singleton] at this
          omega
        obtain ⟨ar, cr, hvr, _, _, hnil⟩ := Own.shape (us := Ints l) hfd
        subst hvr
        cases ar with
        | none => exact absurd (hnil rfl).2 (fun e => hll (by simpa [Ints] using e))
        | some ad =>
          repeat' (first|refine X.O ?_|refine X.A ?_|refine X.B ?_|refine X.C ?_|refine X.D ?_|refine X.E ?_|refine X.F ?_|refine X.G ?_|refine X.H ?_|refine X.I ?_|fail)
          refine WL.step (o_neqNil (by rfl) (by rfl) ?_)
          repeat' (first|refine X.O ?_|refine X.A ?_|refine X.B ?_|refine X.C ?_|refine X.D ?_|refine X.E ?_|refine X.F ?_|refine X.G ?_|refine X.H ?_|refine X.I ?_|fail)
          refine ⟨_, ret1 rfl (by rfl), ?_⟩
          rw [hfs, firstSome_some hgi]
          exact ⟨hblw8.trans (Below.mono hbl9 (by omega)), Own.lower (us := Ints l) hfd (by omega)⟩
  · rename_i hge
    have hie : i = x.2.length := by omega
    rw [hie, Nat.sub_self, firstSome] at hfs
    repeat' (first|refine X.O ?_|refine X.A ?_|refine X.B ?_|refine X.C ?_|refine X.D ?_|refine X.E ?_|refine X.F ?_|refine X.G ?_|refine X.H ?_|refine X.I ?_|fail)
    refine ⟨_, ret1 rfl (by rfl), ?_⟩
    rw [hfs]
    exact ⟨hblw5, rfl⟩
end Go.Proofs
