/- The reference's cuts: comparing and putting in. -/
import Derived.Test.YtncilhecdihmeaaGreatF7
import Derived.Test.YtncilhecdihmeaaGreatF8
set_option maxRecDepth 8000
namespace Go.Rk
open Go.Fw Go.Proofs
def sgnI (z : Int) : Int := if z < 0 then -1 else if 0 < z then 1 else 0
theorem sgnI_neg {z : Int} (h : z < 0) : sgnI z = -1 := by unfold sgnI; rw [if_pos h]
theorem sgnI_pos {z : Int} (h : 0 < z) : sgnI z = 1 := by unfold sgnI; rw [if_neg (by omega), if_pos h]
theorem sgnI_zero : sgnI 0 = 0 := rfl
theorem sgnI_lt {z : Int} : sgnI z < 0 ↔ z < 0 := by
  unfold sgnI
  split
  · omega
  · split <;> omega
theorem sgnI_eq {z : Int} : sgnI z = 0 ↔ z = 0 := by
  unfold sgnI
  split
  · omega
  · split <;> omega
theorem less_cmp : ∀ xs ys : List Int, lessL xs ys = decide (cmpL xs ys < 0)
  | [], [] => rfl
  | [], _ :: _ => rfl
  | _ :: _, [] => rfl
  | x :: xs, y :: ys => by
    rw [lessL, cmpL, less_cmp xs ys]
    by_cases h : x = y
    · subst h
      rw [if_neg (by omega), if_neg (by unfold cmpI; rw [if_neg (by omega), if_neg (by omega)]; omega)]
    · rw [if_pos h]
      have hc : cmpI x y ≠ 0 := by
        unfold cmpI
        split
        · omega
        · split <;> omega
      rw [if_pos hc]
      unfold cmpI
      by_cases h2 : x < y
      · rw [if_pos h2, decide_eq_true h2]; rfl
      · rw [if_neg h2, if_pos (by omega), decide_eq_false h2]; rfl
theorem ord_cmpFo : Ord3 cmpFo := by rw [show cmpFo = lexL cmpT from funext fun a => funext fun b => cmpFo_lex a b]; exact ord_cmpT.lex
def cc (x y : SplD) : Int := cmpC (x.1, x.2.1) (y.1, y.2.1)
theorem putS_cons (x c : SplD) (r : List SplD) : putS (x :: r) c = if cc c x < 0 then c :: x :: r else if cc c x = 0 then (x.1, x.2.1, x.2.2 + c.2.2) :: r else x :: putS r c := rfl
end Go.Rk
namespace Go.Fw
open Go Go.RowKit
section
variable {P : Program} {N : Nat} {Q : Exit → Fr → World → Prop} {l : Fr} {w : World}
/-- An assertion where a block is left. -/
theorem WP.midB {c : Code} {id : Nat} {K : Fr → World → Prop} (M : Fr → World → Prop) (hx : WP P N c (inBlockE id (thenE M Q)) l w) (hk : ∀ l w, M l w → K l w) : WP P N c (inBlockE id (thenE K Q)) l w := fun a ha => by
  refine wp_mono (hx a ha) ?_
  intro e a' w' he
  cases e with
  | normal => obtain ⟨l', hl, hK⟩ := he; exact ⟨l', hl, hk _ _ hK⟩
  | exit id' =>
    obtain ⟨l', hl, hK⟩ := he
    simp only [inBlockE] at hK
    refine ⟨l', hl, ?_⟩
    simp only [inBlockE]
    split
    · rename_i e; rw [if_pos e] at hK; exact hk _ _ hK
    · rename_i e; rw [if_neg e] at hK; exact hK
  | goto n => exact he
  | ret => exact he
  | panic c => exact he
  | outgrown => exact he
end
end Go.Fw
namespace Go.Proofs
open Go Go.Fw Go.RowKit Go.Rk
theorem l03Nodes_any {lo hi : Nat} {w : World} {v : Value} {f : For} (h : ISS lo hi w v f) (hn : f.flatten.length ≤ 1000000000) :
    Does Tryz.prog 209 [v] w fun r w' => r = .int .i64 (f.flatten.length : Nat) ∧ w = w' := by
  have hm := h.len
  unfold maxLen at hm
  obtain ⟨a, c, hv⟩ := h.shape
  subst hv
  refine Does.enter Tryz.func209 Tryz.ntmps209 rfl (by rfl) ?_
  repeat' (first|refine X.O ?_|refine X.A ?_|refine X.B ?_|refine X.C ?_|refine X.D ?_|refine X.E ?_|refine X.F ?_|refine X.G ?_|refine X.H ?_|refine X.I ?_|fail)
  refine WP.loop (fun (i : Nat) => [(0, .slice a f.length c), (3, .int .i64 ((f.take i).flatten.length : Nat)), (4, .int .i64 (i : Nat))])
    (fun i w2 => i ≤ f.length ∧ w = w2) (fun i => f.length - i) 0 ⟨rfl, rfl, rfl, trivial⟩ ⟨by omega, rfl⟩ ?_
  rintro i _ ⟨hi1, rfl⟩
  have hle := flat_take_le f i
  repeat' (first|refine X.O ?_|refine X.A ?_|refine X.B ?_|refine X.C ?_|refine X.D ?_|refine X.E ?_|refine X.F ?_|refine X.G ?_|refine X.H ?_|refine X.I ?_|fail)
  first|refine X.J (fun _ => ?_) (fun _ => ?_)|refine X.L (fun _ => ?_) (fun _ => ?_)|refine X.M (fun _ => ?_) (fun _ => ?_)|refine X.R (fun _ => ?_) (fun _ => ?_)|fail
  · rename_i hlt
    have hli : i < f.length := by omega
    have h1 := flat_take_len hli
    have h2 := flat_take_le f (i + 1)
    repeat' (first|refine X.O ?_|refine X.A ?_|refine X.B ?_|refine X.C ?_|refine X.D ?_|refine X.E ?_|refine X.F ?_|refine X.G ?_|refine X.H ?_|refine X.I ?_|fail)
    refine WL.ixload (j := i) h (List.getElem?_eq_getElem hli) ?_
    intro p u hu
    obtain ⟨au, cu, hvu⟩ := hu.shape
    subst hvu
    repeat' (first|refine X.O ?_|refine X.A ?_|refine X.B ?_|refine X.C ?_|refine X.D ?_|refine X.E ?_|refine X.F ?_|refine X.G ?_|refine X.H ?_|refine X.I ?_|fail)
    exact ⟨i + 1, ⟨rfl, (by first|rfl|exact X.T (by omega)), (by first|rfl|exact X.T (by omega)), trivial⟩, ⟨by omega, rfl⟩, by omega⟩
  · rename_i hge
    have hie : i = f.length := by omega
    subst hie
    rw [List.take_length]
    repeat' (first|refine X.O ?_|refine X.A ?_|refine X.B ?_|refine X.C ?_|refine X.D ?_|refine X.E ?_|refine X.F ?_|refine X.G ?_|refine X.H ?_|refine X.I ?_|fail)
    refine ⟨_, ret1 rfl (by rfl), ?_⟩
    exact ⟨rfl, rfl⟩
theorem l03Before_any {lo hi lo' hi' : Nat} {w : World} {v v' : Value} {s t : List Int} (h : IS lo hi w v s) (h' : IS lo' hi' w v' t) :
    Does Tryz.prog 208 [v, v'] w fun r w' => r = .bool (decide (cmpT s t < 0)) ∧ Still w w' := by
  have hm := h.len
  have hm' := h'.len
  unfold maxLen at hm hm'
  obtain ⟨a, c, hv⟩ := h.shape
  obtain ⟨a', c', hv'⟩ := h'.shape
  subst hv hv'
  refine Does.enter Tryz.func208 Tryz.ntmps208 rfl (by rfl) ?_
  repeat' (first|refine X.O ?_|refine X.A ?_|refine X.B ?_|refine X.C ?_|refine X.D ?_|refine X.E ?_|refine X.F ?_|refine X.G ?_|refine X.H ?_|refine X.I ?_|fail)
  first|refine X.J (fun _ => ?_) (fun _ => ?_)|refine X.L (fun _ => ?_) (fun _ => ?_)|refine X.M (fun _ => ?_) (fun _ => ?_)|refine X.R (fun _ => ?_) (fun _ => ?_)|fail
  · rename_i hne
    repeat' (first|refine X.O ?_|refine X.A ?_|refine X.B ?_|refine X.C ?_|refine X.D ?_|refine X.E ?_|refine X.F ?_|refine X.G ?_|refine X.H ?_|refine X.I ?_|fail)
    refine ⟨_, ret1 rfl (by rfl), ?_⟩
    refine ⟨congrArg Value.bool (decide_eq_decide.2 ?_), Still.refl _⟩
    unfold cmpT
    rw [if_pos (by omega)]
    omega
  · rename_i heq
    repeat' (first|refine X.O ?_|refine X.A ?_|refine X.B ?_|refine X.C ?_|refine X.D ?_|refine X.E ?_|refine X.F ?_|refine X.G ?_|refine X.H ?_|refine X.I ?_|fail)
    refine WL.call (l01Less_any h' h) ?_
    rintro _ w1 ⟨rfl, hs1⟩
    repeat' (first|refine X.O ?_|refine X.A ?_|refine X.B ?_|refine X.C ?_|refine X.D ?_|refine X.E ?_|refine X.F ?_|refine X.G ?_|refine X.H ?_|refine X.I ?_|fail)
    refine ⟨_, ret1 rfl (by rfl), ?_⟩
    refine ⟨congrArg Value.bool ?_, hs1⟩
    rw [less_cmp]
    unfold cmpT
    rw [if_neg (by omega)]
theorem l05Compare_any {lo hi lo' hi' : Nat} {w : World} {v v' : Value} {f g : For} (h : ISS lo hi w v f) (h' : ISS lo' hi' w v' g) :
    Does Tryz.prog 210 [v, v'] w fun r w' => r = .int .i64 (sgnI (cmpTr f g)) ∧ Still w w' := by
  have hm := h.len
  have hm' := h'.len
  unfold maxLen at hm hm'
  obtain ⟨a, c, hv⟩ := h.shape
  obtain ⟨a', c', hv'⟩ := h'.shape
  subst hv hv'
  refine Does.enter Tryz.func210 Tryz.ntmps210 rfl (by rfl) ?_
  repeat' (first|refine X.O ?_|refine X.A ?_|refine X.B ?_|refine X.C ?_|refine X.D ?_|refine X.E ?_|refine X.F ?_|refine X.G ?_|refine X.H ?_|refine X.I ?_|fail)
  first|refine X.J (fun _ => ?_) (fun _ => ?_)|refine X.L (fun _ => ?_) (fun _ => ?_)|refine X.M (fun _ => ?_) (fun _ => ?_)|refine X.R (fun _ => ?_) (fun _ => ?_)|fail
  · rename_i hne
    have e : cmpTr f g = (f.length : Int) - g.length := by unfold cmpTr; rw [if_pos (by omega)]
    repeat' (first|refine X.O ?_|refine X.A ?_|refine X.B ?_|refine X.C ?_|refine X.D ?_|refine X.E ?_|refine X.F ?_|refine X.G ?_|refine X.H ?_|refine X.I ?_|fail)
    first|refine X.J (fun _ => ?_) (fun _ => ?_)|refine X.L (fun _ => ?_) (fun _ => ?_)|refine X.M (fun _ => ?_) (fun _ => ?_)|refine X.R (fun _ => ?_) (fun _ => ?_)|fail
    · repeat' (first|refine X.O ?_|refine X.A ?_|refine X.B ?_|refine X.C ?_|refine X.D ?_|refine X.E ?_|refine X.F ?_|refine X.G ?_|refine X.H ?_|refine X.I ?_|fail)
      refine ⟨_, ret1 rfl (by rfl), ?_⟩
      exact ⟨by rw [e, sgnI_neg (by omega)], Still.refl _⟩
    · repeat' (first|refine X.O ?_|refine X.A ?_|refine X.B ?_|refine X.C ?_|refine X.D ?_|refine X.E ?_|refine X.F ?_|refine X.G ?_|refine X.H ?_|refine X.I ?_|fail)
      refine ⟨_, ret1 rfl (by rfl), ?_⟩
      exact ⟨by rw [e, sgnI_pos (by omega)], Still.refl _⟩
  · rename_i heq
    have hle : f.length = g.length := by omega
    have e : cmpTr f g = cmpFo f g := by unfold cmpTr; rw [if_neg (by omega)]
    rw [e]
    repeat' (first|refine X.O ?_|refine X.A ?_|refine X.B ?_|refine X.C ?_|refine X.D ?_|refine X.E ?_|refine X.F ?_|refine X.G ?_|refine X.H ?_|refine X.I ?_|fail)
    refine WP.loop (fun (i : Nat) => [(0, .slice a f.length c), (1, .slice a' g.length c'), (5, .int .i64 (i : Nat))])
      (fun i w2 => i ≤ f.length ∧ cmpFo f g = cmpFo (f.drop i) (g.drop i) ∧ Still w w2) (fun i => f.length - i) 0 ⟨rfl, rfl, rfl, trivial⟩ ⟨by omega, rfl, Still.refl _⟩ ?_
    rintro i w2 ⟨hi1, he, hs2⟩
    repeat' (first|refine X.O ?_|refine X.A ?_|refine X.B ?_|refine X.C ?_|refine X.D ?_|refine X.E ?_|refine X.F ?_|refine X.G ?_|refine X.H ?_|refine X.I ?_|fail)
    first|refine X.J (fun _ => ?_) (fun _ => ?_)|refine X.L (fun _ => ?_) (fun _ => ?_)|refine X.M (fun _ => ?_) (fun _ => ?_)|refine X.R (fun _ => ?_) (fun _ => ?_)|fail
    · rename_i hlt
      have hli : i < f.length := by omega
      have hlj : i < g.length := by omega
      rw [cmpFo_step hli hlj] at he
      repeat' (first|refine X.O ?_|refine X.A ?_|refine X.B ?_|refine X.C ?_|refine X.D ?_|refine X.E ?_|refine X.F ?_|refine X.G ?_|refine X.H ?_|refine X.I ?_|fail)
      refine WP.drawn (fun w' => w'.heap = w2.heap) [(0, true), (1, true), (2, true), (3, true), (4, true), (5, true), (6, true), (7, true), (8, false), (9, true)] (by kernel_rfl) mixed ?_
      intro w3 hs3
      have hw3 : w3.heap = w2.heap := hs3.heap
      have hs13 := hs2.trans hs3
      repeat' (first|refine X.U rfl ?_|refine X.V rfl ?_|refine X.W rfl ?_|refine X.Y rfl ?_|refine X.Z rfl ?_|refine WS.nil ?_|fail)
      refine WS.ixload (j := i) rfl rfl (h.still IS.stable hs13) (List.getElem?_eq_getElem hli) (fun w' hw' => same_heap (hw'.trans hw3.symm)) hw3 ?_
      intro p1 u hu
      repeat' (first|refine X.U rfl ?_|refine X.V rfl ?_|refine X.W rfl ?_|refine X.Y rfl ?_|refine X.Z rfl ?_|refine WS.nil ?_|fail)
      refine WS.ixload (j := i) rfl rfl (h'.still IS.stable hs13) (List.getElem?_eq_getElem hlj) (fun w' hw' => same_heap (hw'.trans hw3.symm)) hw3 ?_
      intro p2 u2 hu2
      refine WS.call rfl (l03Before_any hu hu2) ?_
      rintro _ w4 ⟨rfl, hs4⟩
      have hw4 : w4.heap = w2.heap := hs4.heap.trans hw3
      refine ⟨hw4, ?_⟩
      repeat' (first|refine X.U rfl ?_|refine X.V rfl ?_|refine X.W rfl ?_|refine X.Y rfl ?_|refine X.Z rfl ?_|refine WS.nil ?_|fail)
      have hs14 := hs13.trans hs4
      repeat' (first|refine X.O ?_|refine X.A ?_|refine X.B ?_|refine X.C ?_|refine X.D ?_|refine X.E ?_|refine X.F ?_|refine X.G ?_|refine X.H ?_|refine X.I ?_|fail)
      first|refine X.J (fun _ => ?_) (fun _ => ?_)|refine X.L (fun _ => ?_) (fun _ => ?_)|refine X.M (fun _ => ?_) (fun _ => ?_)|refine X.R (fun _ => ?_) (fun _ => ?_)|fail
      · rename_i hneg
        repeat' (first|refine X.O ?_|refine X.A ?_|refine X.B ?_|refine X.C ?_|refine X.D ?_|refine X.E ?_|refine X.F ?_|refine X.G ?_|refine X.H ?_|refine X.I ?_|fail)
        refine ⟨_, ret1 rfl (by rfl), ?_⟩
        exact ⟨by rw [he, if_pos (by omega), sgnI_neg hneg], hs14⟩
      · rename_i hneg
        repeat' (first|refine X.O ?_|refine X.A ?_|refine X.B ?_|refine X.C ?_|refine X.D ?_|refine X.E ?_|refine X.F ?_|refine X.G ?_|refine X.H ?_|refine X.I ?_|fail)
        refine WP.drawn (fun w' => w'.heap = w4.heap) [(0, true), (1, true), (2, true), (3, true), (4, true), (5, true), (6, true), (7, true), (8, false), (9, true)] (by kernel_rfl) mixed ?_
        intro w5 hs5
        have hw5 : w5.heap = w4.heap := hs5.heap
        have hs15 := hs14.trans hs5
        repeat' (first|refine X.U rfl ?_|refine X.V rfl ?_|refine X.W rfl ?_|refine X.Y rfl ?_|refine X.Z rfl ?_|refine WS.nil ?_|fail)
        refine WS.ixload (j := i) rfl rfl (h'.still IS.stable hs15) (List.getElem?_eq_getElem hlj) (fun w' hw' => same_heap (hw'.trans hw5.symm)) hw5 ?_
        intro p3 u3 hu3
        repeat' (first|refine X.U rfl ?_|refine X.V rfl ?_|refine X.W rfl ?_|refine X.Y rfl ?_|refine X.Z rfl ?_|refine WS.nil ?_|fail)
        refine WS.ixload (j := i) rfl rfl (h.still IS.stable hs15) (List.getElem?_eq_getElem hli) (fun w' hw' => same_heap (hw'.trans hw5.symm)) hw5 ?_
        intro p4 u4 hu4
        refine WS.call rfl (l03Before_any hu3 hu4) ?_
        rintro _ w6 ⟨rfl, hs6⟩
        have hw6 : w6.heap = w4.heap := hs6.heap.trans hw5
        refine ⟨hw6, ?_⟩
        repeat' (first|refine X.U rfl ?_|refine X.V rfl ?_|refine X.W rfl ?_|refine X.Y rfl ?_|refine X.Z rfl ?_|refine WS.nil ?_|fail)
        have hs16 := hs15.trans hs6
        have han := ord_cmpT.anti g[i] f[i]
        repeat' (first|refine X.O ?_|refine X.A ?_|refine X.B ?_|refine X.C ?_|refine X.D ?_|refine X.E ?_|refine X.F ?_|refine X.G ?_|refine X.H ?_|refine X.I ?_|fail)
        first|refine X.J (fun _ => ?_) (fun _ => ?_)|refine X.L (fun _ => ?_) (fun _ => ?_)|refine X.M (fun _ => ?_) (fun _ => ?_)|refine X.R (fun _ => ?_) (fun _ => ?_)|fail
        · rename_i hneg2
          have hp := han.1 hneg2
          repeat' (first|refine X.O ?_|refine X.A ?_|refine X.B ?_|refine X.C ?_|refine X.D ?_|refine X.E ?_|refine X.F ?_|refine X.G ?_|refine X.H ?_|refine X.I ?_|fail)
          refine ⟨_, ret1 rfl (by rfl), ?_⟩
          exact ⟨by rw [he, if_pos (by omega), sgnI_pos hp], hs16⟩
        · rename_i hneg2
          have hz : cmpT f[i] g[i] = 0 := by
            rcases Int.lt_trichotomy (cmpT f[i] g[i]) 0 with h1 | h1 | h1
            · exact absurd h1 hneg
            · exact h1
            · exact absurd (han.2 h1) hneg2
          rw [if_neg (by omega)] at he
          repeat' (first|refine X.O ?_|refine X.A ?_|refine X.B ?_|refine X.C ?_|refine X.D ?_|refine X.E ?_|refine X.F ?_|refine X.G ?_|refine X.H ?_|refine X.I ?_|fail)
          exact ⟨i + 1, ⟨rfl, rfl, (by first|rfl|exact X.T (by omega)), trivial⟩, ⟨by omega, he, hs16⟩, by omega⟩
    · rename_i hge
      have hie : i = f.length := by omega
      subst hie
      rw [cmpFo_end (by omega) (by omega)] at he
      repeat' (first|refine X.O ?_|refine X.A ?_|refine X.B ?_|refine X.C ?_|refine X.D ?_|refine X.E ?_|refine X.F ?_|refine X.G ?_|refine X.H ?_|refine X.I ?_|fail)
      refine ⟨_, ret1 rfl (by rfl), ?_⟩
      exact ⟨by rw [he]; rfl, hs2⟩
theorem l05Order_any {lo hi lo2 hi2 lo' hi' lo2' hi2' : Nat} {w : World} {c t c' t' n n' : Value} {x y : SplD} (hc : ISS lo hi w c x.1) (ht : ISS lo2 hi2 w t x.2.1) (hc' : ISS lo' hi' w c' y.1) (ht' : ISS lo2' hi2' w t' y.2.1)
    (hn : x.1.flatten.length ≤ 1000000000) (hn' : y.1.flatten.length ≤ 1000000000) :
    Does Tryz.prog 192 [.agg #[c, t, n], .agg #[c', t', n']] w fun r w' => r = .int .i64 (sgnI (cc x y)) ∧ Below w.heap.size w w' := by
  have z1 := hc.hi_le
  have z2 := ht.hi_le
  have z3 := hc'.hi_le
  have z4 := ht'.hi_le
  refine Does.enter Tryz.func192 Tryz.ntmps192 rfl (by rfl) ?_
  refine WP.seq ?_
  refine WP.region ?_
  refine WL.step (o_box (by rfl) ?_)
  intro w1 hb1 hbl1 hz1
  refine WL.step (o_box (by rfl) ?_)
  intro w2 hb2 hbl2 hz2
  have hb1' : Blk w2 w.heap.size [c, t, n] _ := Blk.below hb1 hbl2 (by omega)
  have hb2' : Blk w2 w1.heap.size [c', t', n'] _ := hb2
  have hbl02 : Below w.heap.size w w2 := hbl1.trans (Below.mono hbl2 (by omega))
  have hC := hc.below IS.stable hbl02 z1
  have hT := ht.below IS.stable hbl02 z2
  have hC' := hc'.below IS.stable hbl02 z3
  have hT' := ht'.below IS.stable hbl02 z4
  repeat' (first|refine X.O ?_|refine X.A ?_|refine X.B ?_|refine X.C ?_|refine X.D ?_|refine X.E ?_|refine X.F ?_|refine X.G ?_|refine X.H ?_|refine X.I ?_|fail)
  refine WP.drawn (fun w' => w'.heap = w2.heap) [(0, true), (1, true), (3, true), (4, true), (2, false), (5, false), (6, true), (7, true)] (by kernel_rfl) mixed ?_
  intro w3 hs3
  have hw3 : w3.heap = w2.heap := hs3.heap
  refine WS.fld rfl rfl (fun w' h => hb1'.keep (by rw [h])) hw3 ?_
  intro p1
  refine WS.fld rfl rfl (fun w' h => hb2'.keep (by rw [h])) hw3 ?_
  intro p2
  refine WS.call rfl (l03Nodes_any (hC.still IS.stable hs3) hn) ?_
  rintro _ _ ⟨rfl, rfl⟩
  refine ⟨hw3, ?_⟩
  refine WS.call rfl (l03Nodes_any (hC'.still IS.stable hs3) hn') ?_
  rintro _ _ ⟨rfl, rfl⟩
  refine ⟨hw3, ?_⟩
  repeat' (first|refine X.U rfl ?_|refine X.V rfl ?_|refine X.W rfl ?_|refine X.Y rfl ?_|refine X.Z rfl ?_|refine WS.nil ?_|fail)
  have hbl03 : Below w.heap.size w w3 := hbl02.trans (hs3.below _)
  have hb13 := hb1'.still hs3
  have hb23 := hb2'.still hs3
  repeat' (first|refine X.O ?_|refine X.A ?_|refine X.B ?_|refine X.C ?_|refine X.D ?_|refine X.E ?_|refine X.F ?_|refine X.G ?_|refine X.H ?_|refine X.I ?_|fail)
  first|refine X.J (fun _ => ?_) (fun _ => ?_)|refine X.L (fun _ => ?_) (fun _ => ?_)|refine X.M (fun _ => ?_) (fun _ => ?_)|refine X.R (fun _ => ?_) (fun _ => ?_)|fail
  · rename_i hne
    have e : cc x y = (x.1.flatten.length : Int) - y.1.flatten.length := by
      have hf : cmpF x.1 y.1 = (x.1.flatten.length : Int) - y.1.flatten.length := by unfold cmpF; rw [if_pos (by omega)]
      unfold cc cmpC
      dsimp only
      rw [if_pos (by rw [hf]; omega), hf]
    repeat' (first|refine X.O ?_|refine X.A ?_|refine X.B ?_|refine X.C ?_|refine X.D ?_|refine X.E ?_|refine X.F ?_|refine X.G ?_|refine X.H ?_|refine X.I ?_|fail)
    first|refine X.J (fun _ => ?_) (fun _ => ?_)|refine X.L (fun _ => ?_) (fun _ => ?_)|refine X.M (fun _ => ?_) (fun _ => ?_)|refine X.R (fun _ => ?_) (fun _ => ?_)|fail
    · repeat' (first|refine X.O ?_|refine X.A ?_|refine X.B ?_|refine X.C ?_|refine X.D ?_|refine X.E ?_|refine X.F ?_|refine X.G ?_|refine X.H ?_|refine X.I ?_|fail)
      refine ⟨_, ret1 rfl (by rfl), ?_⟩
      exact ⟨by rw [e, sgnI_neg (by omega)], hbl03⟩
    · repeat' (first|refine X.O ?_|refine X.A ?_|refine X.B ?_|refine X.C ?_|refine X.D ?_|refine X.E ?_|refine X.F ?_|refine X.G ?_|refine X.H ?_|refine X.I ?_|fail)
      refine ⟨_, ret1 rfl (by rfl), ?_⟩
      exact ⟨by rw [e, sgnI_pos (by omega)], hbl03⟩
  · rename_i heq
    have hf : cmpF x.1 y.1 = cmpTr x.1 y.1 := by unfold cmpF; rw [if_neg (by omega)]
    repeat' (first|refine X.O ?_|refine X.A ?_|refine X.B ?_|refine X.C ?_|refine X.D ?_|refine X.E ?_|refine X.F ?_|refine X.G ?_|refine X.H ?_|refine X.I ?_|fail)
    refine WL.fld hb13 ?_
    intro p3
    refine WL.fld hb23 ?_
    intro p4
    refine WL.call (l05Compare_any (hC.still IS.stable hs3) (hC'.still IS.stable hs3)) ?_
    rintro _ w4 ⟨rfl, hs4⟩
    have hs34 := hs3.trans hs4
    repeat' (first|refine X.O ?_|refine X.A ?_|refine X.B ?_|refine X.C ?_|refine X.D ?_|refine X.E ?_|refine X.F ?_|refine X.G ?_|refine X.H ?_|refine X.I ?_|fail)
    first|refine X.J (fun _ => ?_) (fun _ => ?_)|refine X.L (fun _ => ?_) (fun _ => ?_)|refine X.M (fun _ => ?_) (fun _ => ?_)|refine X.R (fun _ => ?_) (fun _ => ?_)|fail
    · rename_i hne
      have e : cc x y = cmpTr x.1 y.1 := by
        unfold cc cmpC
        dsimp only
        rw [hf, if_pos (fun h => hne (by rw [h]; rfl))]
      repeat' (first|refine X.O ?_|refine X.A ?_|refine X.B ?_|refine X.C ?_|refine X.D ?_|refine X.E ?_|refine X.F ?_|refine X.G ?_|refine X.H ?_|refine X.I ?_|fail)
      refine ⟨_, ret1 rfl (by rfl), ?_⟩
      exact ⟨by rw [e], hbl03.trans (hs4.below _)⟩
    · rename_i hze
      have hz0 : cmpTr x.1 y.1 = 0 := sgnI_eq.1 (by omega)
      have e : cc x y = cmpTr x.2.1 y.2.1 := by
        unfold cc cmpC
        dsimp only
        rw [hf, if_neg (by omega)]
      repeat' (first|refine X.O ?_|refine X.A ?_|refine X.B ?_|refine X.C ?_|refine X.D ?_|refine X.E ?_|refine X.F ?_|refine X.G ?_|refine X.H ?_|refine X.I ?_|fail)
      refine WL.fld (hb13.still hs4) ?_
      intro p5
      refine WL.fld (hb23.still hs4) ?_
      intro p6
      refine WL.call (l05Compare_any (hT.still IS.stable hs34) (hT'.still IS.stable hs34)) ?_
      rintro _ w5 ⟨rfl, hs5⟩
      repeat' (first|refine X.O ?_|refine X.A ?_|refine X.B ?_|refine X.C ?_|refine X.D ?_|refine X.E ?_|refine X.F ?_|refine X.G ?_|refine X.H ?_|refine X.I ?_|fail)
      refine ⟨_, ret1 rfl (by rfl), ?_⟩
      exact ⟨by rw [e], hbl03.trans ((hs4.trans hs5).below _)⟩
set_option maxHeartbeats 1000000 in
theorem l05Put_any {lo : Nat} {w : World} {v : Value} {ts : List Tri} {xs : List SplD} {c : Tri} {x : SplD} (h : Own3 lo 111 w v ts) (hx : SplG w ts xs) (hc : SplR w c (x.1, x.2.1) x.2.2)
    (hn : xs.length ≤ 100000) (hcb : 0 ≤ x.2.2 ∧ x.2.2 ≤ 1000000) (hcf : x.1.flatten.length ≤ 1000000000) (hxb : ∀ y ∈ xs, (0 ≤ y.2.2 ∧ y.2.2 ≤ 1000000) ∧ y.1.flatten.length ≤ 1000000000) :
    Does Tryz.prog 177 [v, .agg c.cells.toArray] w fun r w' => (∃ ts', Own3 w.heap.size 111 w' r ts' ∧ SplG w' ts' (putS xs x)) ∧ Below w.heap.size w w' := by
  obtain ⟨cC, cT, cN⟩ := c
  have hcn : cN = .int .i64 x.2.2 := hc.2.2
  subst hcn
  obtain ⟨a, cp, hv, _⟩ := h.shape
  have hxl := hx.1
  refine Does.enter Tryz.func177 Tryz.ntmps177 rfl (by rfl) ?_
  rw [hv]
  repeat' (first|refine X.O ?_|refine X.A ?_|refine X.B ?_|refine X.C ?_|refine X.D ?_|refine X.E ?_|refine X.F ?_|refine X.G ?_|refine X.H ?_|refine X.I ?_|fail)
  refine WL.step (o_box (v := .agg #[cC, cT, .int .i64 x.2.2]) (by rfl) ?_)
  intro w1 hb1 hbl1 hz1
  have hb1' : Blk w1 w.heap.size [cC, cT, .int .i64 x.2.2] _ := hb1
  repeat' (first|refine X.O ?_|refine X.A ?_|refine X.B ?_|refine X.C ?_|refine X.D ?_|refine X.E ?_|refine X.F ?_|refine X.G ?_|refine X.H ?_|refine X.I ?_|fail)
  refine WL.step (o_lit30 ?_)
  intro v2 w2 hown2 hbl2 hz2
  have hbl02 : Below w.heap.size w w2 := hbl1.trans (Below.mono hbl2 (by omega))
  have hb12 := hb1'.below hbl2 (by omega)
  have h2 := h.below hbl02 (Nat.le_refl _)
  rw [hv] at h2
  have hx2 := hx.tsame (TSame.below hbl02)
  have hc2 := hc.tsame (TSame.below hbl02)
  repeat' (first|refine X.O ?_|refine X.A ?_|refine X.B ?_|refine X.C ?_|refine X.D ?_|refine X.E ?_|refine X.F ?_|refine X.G ?_|refine X.H ?_|refine X.I ?_|fail)
  refine WP.midB (fun l' wz => ∃ (vz : Value) (d : Bool) (out : List SplD), Agree l' [(3, .pointer (some ⟨w.heap.size, 0, none⟩)), (5, vz), (6, .bool d)] ∧ (∃ to, Own3 w1.heap.size 111 wz vz to ∧ SplG wz to out) ∧ ((d = true ∧ out = putS xs x) ∨ (d = false ∧ out = xs ∧ putS xs x = xs ++ [x])) ∧ Below w1.heap.size w1 wz) ?_ ?_
  · refine WP.loop (fun (s : Nat × Value × Bool × List SplD) => [(0, .slice a ts.length cp), (3, .pointer (some ⟨w.heap.size, 0, none⟩)), (5, s.2.1), (6, .bool s.2.2.1), (7, .int .i64 (s.1 : Nat))])
      (fun s w3 => s.1 ≤ xs.length ∧ (∃ to, Own3 w1.heap.size 111 w3 s.2.1 to ∧ SplG w3 to s.2.2.2) ∧ ((s.2.2.1 = true ∧ s.2.2.2 ++ xs.drop s.1 = putS xs x) ∨ (s.2.2.1 = false ∧ s.2.2.2 = xs.take s.1 ∧ putS xs x = xs.take s.1 ++ putS (xs.drop s.1) x)) ∧ s.2.2.2.length ≤ s.1 + 1 ∧ Below w1.heap.size w1 w3)
      (fun s => xs.length - s.1) (0, v2, false, []) ⟨rfl, rfl, rfl, rfl, rfl, trivial⟩ ⟨by dsimp only; omega, ⟨[], hown2, SplG.nil _⟩, Or.inr ⟨rfl, rfl, rfl⟩, by simp, hbl2⟩ ?_
    rintro ⟨i, vo, d, out⟩ w3 ⟨hi1, ⟨to, oo, hAo⟩, hst, hol, hbl3⟩
    dsimp only at hi1 oo hAo hst hol ⊢
    have hz3 := hbl3.size
    have hbl03 : Below w.heap.size w w3 := hbl1.trans (Below.mono hbl3 (by omega))
    have hb13 := hb1'.below hbl3 (by omega)
    have h3 := h.below hbl03 (Nat.le_refl _)
    rw [hv] at h3
    have hx3 := hx.tsame (TSame.below hbl03)
    have hc3 := hc.tsame (TSame.below hbl03)
    have htol := hAo.1
    repeat' (first|refine X.O ?_|refine X.A ?_|refine X.B ?_|refine X.C ?_|refine X.D ?_|refine X.E ?_|refine X.F ?_|refine X.G ?_|refine X.H ?_|refine X.I ?_|fail)
    refine WL.step (o_len3 (by rfl) ?_)
    repeat' (first|refine X.O ?_|refine X.A ?_|refine X.B ?_|refine X.C ?_|refine X.D ?_|refine X.E ?_|refine X.F ?_|refine X.G ?_|refine X.H ?_|refine X.I ?_|fail)
    first|refine X.J (fun _ => ?_) (fun _ => ?_)|refine X.L (fun _ => ?_) (fun _ => ?_)|refine X.M (fun _ => ?_) (fun _ => ?_)|refine X.R (fun _ => ?_) (fun _ => ?_)|fail
    · rename_i hlt
      have hli : i < xs.length := by omega
      have hlit : i < ts.length := by omega
      have hsj := hx3.2 i _ _ (List.getElem?_eq_getElem hlit) (List.getElem?_eq_getElem hli)
      have hyb := hxb _ (List.getElem_mem hli)
      have hdr : xs.drop i = xs[i] :: xs.drop (i + 1) := List.drop_eq_getElem_cons hli
      have htk : xs.take (i + 1) = xs.take i ++ [xs[i]] := List.take_succ_eq_append_getElem hli
      obtain ⟨⟨sc, st, sn⟩, hsE⟩ : ∃ s, ts[i] = s := ⟨_, rfl⟩
      rw [hsE] at hsj
      obtain ⟨y, hyE⟩ : ∃ y, xs[i] = y := ⟨_, rfl⟩
      rw [hyE] at hsj hyb hdr htk
      have hsn : sn = .int .i64 y.2.2 := hsj.2.2
      subst hsn
      have hone3 : ∀ u ∈ [sc, st, Value.int .i64 y.2.2], u.oneCell' = true := fun u hu => by
        have h1 := hsj.one
        simp only [List.mem_cons, List.not_mem_nil, or_false] at hu
        rcases hu with rfl | rfl | rfl
        · exact h1.1
        · exact h1.2.1
        · rfl
      rcases hst with ⟨hd, hput⟩ | ⟨hd, hout, hput⟩
      · subst hd
        rw [hdr] at hput
        repeat' (first|refine X.O ?_|refine X.A ?_|refine X.B ?_|refine X.C ?_|refine X.D ?_|refine X.E ?_|refine X.F ?_|refine X.G ?_|refine X.H ?_|refine X.I ?_|fail)
        refine WL.ixload3 (j := i) h3 (by rw [List.getElem?_eq_getElem hlit, hsE]) ?_
        intro p1
        refine WL.var (vs := [sc, st, .int .i64 y.2.2]) (fun _ => by rfl) (by rfl) hone3 ?_
        intro w4 hb4 hbl4 hz4
        repeat' (first|refine X.O ?_|refine X.A ?_|refine X.B ?_|refine X.C ?_|refine X.D ?_|refine X.E ?_|refine X.F ?_|refine X.G ?_|refine X.H ?_|refine X.I ?_|fail)
        refine WL.step (o_loadS (by rfl) hb4 (by rfl) ?_)
        have oo4 := oo.below hbl4 (Nat.le_refl _)
        have hsj4 := hsj.tsame (TSame.below hbl4)
        refine WL.app3 (tr := (sc, st, .int .i64 y.2.2)) (fun _ => by rfl) (by rfl) oo4 hsj4.one (by unfold maxLen; omega) (by omega) (by omega) ?_
        intro p2 v5 w5 hap _
        have hts5 := hap.tsame (e1 := 22) (e2 := 2) oo4 (by decide) (by decide)
        have hA5 := ((hAo.tsame (TSame.below hbl4)).tsame hts5).snoc (x := y) (hsj4.tsame hts5)
        repeat' (first|refine X.O ?_|refine X.A ?_|refine X.B ?_|refine X.C ?_|refine X.D ?_|refine X.E ?_|refine X.F ?_|refine X.G ?_|refine X.H ?_|refine X.I ?_|fail)
        exact ⟨(i + 1, v5, true, out ++ [y]), ⟨rfl, rfl, rfl, rfl, (by first|rfl|exact X.T (by omega)), trivial⟩, ⟨by dsimp only; omega, ⟨_, hap.own, hA5⟩, Or.inl ⟨rfl, by dsimp only; rw [← hput]; simp⟩, by dsimp only; rw [List.length_append, List.length_singleton]; omega, (hbl3.trans (Below.mono hbl4 (by omega))).trans hap.bel⟩, by dsimp only; omega⟩
      · subst hd
        rw [hdr, putS_cons] at hput
        repeat' (first|refine X.O ?_|refine X.A ?_|refine X.B ?_|refine X.C ?_|refine X.D ?_|refine X.E ?_|refine X.F ?_|refine X.G ?_|refine X.H ?_|refine X.I ?_|fail)
        refine WP.drawn (fun w' => Below w3.heap.size w3 w') [(0, true), (1, true), (2, true), (3, true), (4, true), (5, false), (6, true)] (by kernel_rfl) mixed ?_
        intro w4 hs4
        have hz4 := hs4.size
        have hS4 : Below w3.heap.size w3 w4 := hs4.below _
        refine WS.q rfl (q_loadS (by rfl) (fun w' h => hb13.below h (by omega)) (by rfl)) hS4 ?_
        refine WS.q rfl (q_s (by rfl)) hS4 ?_
        refine WS.q rfl (q_s (by rfl)) hS4 ?_
        refine WS.ixload3 (j := i) rfl rfl (fun w' h => h3.below h (Nat.le_refl _)) (by rw [List.getElem?_eq_getElem hlit, hsE]) hS4 ?_
        intro p1
        have hc4 := hc3.tsame (TSame.below hS4)
        have hsj4 := hsj.tsame (TSame.below hS4)
        refine WS.call rfl (l05Order_any (x := x) (y := y) (c := cC) (t := cT) (n := .int .i64 x.2.2) (c' := sc) (t' := st) (n' := .int .i64 y.2.2) hc4.1.rd hc4.2.1.rd hsj4.1.rd hsj4.2.1.rd hcf hyb.2) ?_
        rintro _ w5 ⟨rfl, hbl5⟩
        have hz5 := hbl5.size
        have hS5 := hS4.trans (Below.mono hbl5 (by omega))
        refine ⟨hS5, ?_⟩
        repeat' (first|refine X.U rfl ?_|refine X.V rfl ?_|refine X.W rfl ?_|refine X.Y rfl ?_|refine X.Z rfl ?_|refine WS.nil ?_|fail)
        have hb15 := hb13.below hS5 (by omega)
        have h5 := h3.below hS5 (Nat.le_refl _)
        have oo5 := oo.below hS5 (Nat.le_refl _)
        have hA5 := hAo.tsame (TSame.below hS5)
        have hsj5 := hsj.tsame (TSame.below hS5)
        have hc5 := hc3.tsame (TSame.below hS5)
        have hsl : sgnI (cc x y) < 0 ↔ cc x y < 0 := sgnI_lt
        have hse : sgnI (cc x y) = 0 ↔ cc x y = 0 := sgnI_eq
        obtain ⟨o, ho⟩ : ∃ o, sgnI (cc x y) = o := ⟨_, rfl⟩
        rw [ho] at hsl hse ⊢
        repeat' (first|refine X.O ?_|refine X.A ?_|refine X.B ?_|refine X.C ?_|refine X.D ?_|refine X.E ?_|refine X.F ?_|refine X.G ?_|refine X.H ?_|refine X.I ?_|fail)
        first|refine X.J (fun _ => ?_) (fun _ => ?_)|refine X.L (fun _ => ?_) (fun _ => ?_)|refine X.M (fun _ => ?_) (fun _ => ?_)|refine X.R (fun _ => ?_) (fun _ => ?_)|fail
        · rename_i hneg
          rw [if_pos (hsl.1 hneg)] at hput
          have hoz : ¬ o = 0 := by omega
          repeat' (first|refine X.O ?_|refine X.A ?_|refine X.B ?_|refine X.C ?_|refine X.D ?_|refine X.E ?_|refine X.F ?_|refine X.G ?_|refine X.H ?_|refine X.I ?_|fail)
          refine WL.step (o_loadS (by rfl) hb15 (by rfl) ?_)
          refine WL.app3 (tr := (cC, cT, .int .i64 x.2.2)) (fun _ => by rfl) (by rfl) oo5 hc5.one (by unfold maxLen; omega) (by omega) (by omega) ?_
          intro p2 v6 w6 hap _
          have hz6 := hap.bel.size
          have hts6 := hap.tsame (e1 := 22) (e2 := 2) oo5 (by decide) (by decide)
          have hA6 := (hA5.tsame hts6).snoc (x := x) (hc5.tsame hts6)
          have hbl16 : Below w1.heap.size w1 w6 := (hbl3.trans (Below.mono hS5 (by omega))).trans hap.bel
          have h6 : Own3 lo 111 w6 (.slice a ts.length cp) ts := by
            have := h.below (hbl1.trans (Below.mono hbl16 (by omega))) (Nat.le_refl _)
            rw [hv] at this; exact this
          have hsj6 := hsj5.tsame hts6
          repeat' (first|refine X.O ?_|refine X.A ?_|refine X.B ?_|refine X.C ?_|refine X.D ?_|refine X.E ?_|refine X.F ?_|refine X.G ?_|refine X.H ?_|refine X.I ?_|fail)
          refine WL.ixload3 (j := i) h6 (by rw [List.getElem?_eq_getElem hlit, hsE]) ?_
          intro p3
          refine WL.var (vs := [sc, st, .int .i64 y.2.2]) (fun _ => by rfl) (by rfl) hone3 ?_
          intro w7 hb7 hbl7 hz7
          repeat' (first|refine X.O ?_|refine X.A ?_|refine X.B ?_|refine X.C ?_|refine X.D ?_|refine X.E ?_|refine X.F ?_|refine X.G ?_|refine X.H ?_|refine X.I ?_|fail)
          refine WP.condD (by rfl) (fun hb => absurd hb hoz) (fun _ => ?_)
          repeat' (first|refine X.O ?_|refine X.A ?_|refine X.B ?_|refine X.C ?_|refine X.D ?_|refine X.E ?_|refine X.F ?_|refine X.G ?_|refine X.H ?_|refine X.I ?_|fail)
          refine WL.step (o_loadS (by rfl) hb7 (by rfl) ?_)
          have oo7 := hap.own.below hbl7 (Nat.le_refl _)
          have hsj7 := hsj6.tsame (TSame.below hbl7)
          refine WL.app3 (tr := (sc, st, .int .i64 y.2.2)) (fun _ => by rfl) (by rfl) oo7 hsj7.one (by rw [List.length_append]; unfold maxLen; simp; omega) (by rw [List.length_append]; simp; omega) (by omega) ?_
          intro p4 v8 w8 hap8 _
          have hts8 := hap8.tsame (e1 := 22) (e2 := 2) oo7 (by decide) (by decide)
          have hA8 := ((hA6.tsame (TSame.below hbl7)).tsame hts8).snoc (x := y) (hsj7.tsame hts8)
          repeat' (first|refine X.O ?_|refine X.A ?_|refine X.B ?_|refine X.C ?_|refine X.D ?_|refine X.E ?_|refine X.F ?_|refine X.G ?_|refine X.H ?_|refine X.I ?_|fail)
          exact ⟨(i + 1, v8, true, (out ++ [x]) ++ [y]), ⟨rfl, rfl, rfl, rfl, (by first|rfl|exact X.T (by omega)), trivial⟩, ⟨by dsimp only; omega, ⟨_, hap8.own, hA8⟩, Or.inl ⟨rfl, by dsimp only; rw [hput, hout]; simp⟩, by dsimp only; rw [hout]; simp; omega, (hbl16.trans (Below.mono hbl7 (by omega))).trans hap8.bel⟩, by dsimp only; omega⟩
        · rename_i hneg
          rw [if_neg (fun h => hneg (hsl.2 h))] at hput
          repeat' (first|refine X.O ?_|refine X.A ?_|refine X.B ?_|refine X.C ?_|refine X.D ?_|refine X.E ?_|refine X.F ?_|refine X.G ?_|refine X.H ?_|refine X.I ?_|fail)
          refine WL.ixload3 (j := i) h5 (by rw [List.getElem?_eq_getElem hlit, hsE]) ?_
          intro p3
          refine WL.var (vs := [sc, st, .int .i64 y.2.2]) (fun _ => by rfl) (by rfl) hone3 ?_
          intro w7 hb7 hbl7 hz7
          have oo7 := oo5.below hbl7 (Nat.le_refl _)
          have hsj7 := hsj5.tsame (TSame.below hbl7)
          have hA7 := hA5.tsame (TSame.below hbl7)
          have hb17 := hb15.below hbl7 (by omega)
          have hbl17 : Below w1.heap.size w1 w7 := (hbl3.trans (Below.mono hS5 (by omega))).trans (Below.mono hbl7 (by omega))
          repeat' (first|refine X.O ?_|refine X.A ?_|refine X.B ?_|refine X.C ?_|refine X.D ?_|refine X.E ?_|refine X.F ?_|refine X.G ?_|refine X.H ?_|refine X.I ?_|fail)
          first|refine X.J (fun _ => ?_) (fun _ => ?_)|refine X.L (fun _ => ?_) (fun _ => ?_)|refine X.M (fun _ => ?_) (fun _ => ?_)|refine X.R (fun _ => ?_) (fun _ => ?_)|fail
          · rename_i hoz
            rw [if_pos (hse.1 hoz)] at hput
            repeat' (first|refine X.O ?_|refine X.A ?_|refine X.B ?_|refine X.C ?_|refine X.D ?_|refine X.E ?_|refine X.F ?_|refine X.G ?_|refine X.H ?_|refine X.I ?_|fail)
            refine WL.fld hb7 ?_
            intro p4
            refine WL.fld hb17 ?_
            intro p5
            repeat' (first|refine X.O ?_|refine X.A ?_|refine X.B ?_|refine X.C ?_|refine X.D ?_|refine X.E ?_|refine X.F ?_|refine X.G ?_|refine X.H ?_|refine X.I ?_|fail)
            refine WL.fldst hb7 ?_
            intro p6 w8 hb8 hbut8
            have hz8 := hbut8.size
            have hbl78 : Below w7.heap.size w7 w7 := Below.refl _ _
            have oo8 : Own3 w1.heap.size 111 w8 vo to := oo7.keep fun b hb => hbut8.block b (by have := (oo5.block b hb).2; omega)
            have hts8 : TSame 22 2 w7 w8 := TSame.but hbut8 hb7 (by decide) (by decide)
            have hsj8 := hsj7.tsame hts8
            repeat' (first|refine X.O ?_|refine X.A ?_|refine X.B ?_|refine X.C ?_|refine X.D ?_|refine X.E ?_|refine X.F ?_|refine X.G ?_|refine X.H ?_|refine X.I ?_|fail)
            refine WL.step (o_loadS (by rfl) hb8 (by rfl) ?_)
            refine WL.app3 (tr := (sc, st, .int .i64 (y.2.2 + x.2.2))) (fun _ => by rfl) (by rfl) oo8 ⟨hsj8.one.1, hsj8.one.2.1, rfl⟩ (by unfold maxLen; omega) (by omega) (by omega) ?_
            intro p7 v9 w9 hap9 _
            have hts9 := hap9.tsame (e1 := 22) (e2 := 2) oo8 (by decide) (by decide)
            have hsj9 := hsj8.tsame hts9
            have hA9 := ((hA7.tsame hts8).tsame hts9).snoc (t := (sc, st, .int .i64 (y.2.2 + x.2.2))) (x := (y.1, y.2.1, y.2.2 + x.2.2)) ⟨hsj9.1, hsj9.2.1, rfl⟩
            repeat' (first|refine X.O ?_|refine X.A ?_|refine X.B ?_|refine X.C ?_|refine X.D ?_|refine X.E ?_|refine X.F ?_|refine X.G ?_|refine X.H ?_|refine X.I ?_|fail)
            exact ⟨(i + 1, v9, true, out ++ [(y.1, y.2.1, y.2.2 + x.2.2)]), ⟨rfl, rfl, rfl, rfl, (by first|rfl|exact X.T (by omega)), trivial⟩, ⟨by dsimp only; omega, ⟨_, hap9.own, hA9⟩, Or.inl ⟨rfl, by dsimp only; rw [hput, hout]; simp⟩, by dsimp only; rw [hout]; simp; omega, (hbl17.trans (hbut8.below (by omega))).trans hap9.bel⟩, by dsimp only; omega⟩
          · rename_i hoz
            rw [if_neg (fun h => hoz (hse.2 h))] at hput
            repeat' (first|refine X.O ?_|refine X.A ?_|refine X.B ?_|refine X.C ?_|refine X.D ?_|refine X.E ?_|refine X.F ?_|refine X.G ?_|refine X.H ?_|refine X.I ?_|fail)
            refine WL.step (o_loadS (by rfl) hb7 (by rfl) ?_)
            refine WL.app3 (tr := (sc, st, .int .i64 y.2.2)) (fun _ => by rfl) (by rfl) oo7 hsj7.one (by unfold maxLen; omega) (by omega) (by omega) ?_
            intro p7 v9 w9 hap9 _
            have hts9 := hap9.tsame (e1 := 22) (e2 := 2) oo7 (by decide) (by decide)
            have hA9 := (hA7.tsame hts9).snoc (x := y) (hsj7.tsame hts9)
            repeat' (first|refine X.O ?_|refine X.A ?_|refine X.B ?_|refine X.C ?_|refine X.D ?_|refine X.E ?_|refine X.F ?_|refine X.G ?_|refine X.H ?_|refine X.I ?_|fail)
            exact ⟨(i + 1, v9, false, out ++ [y]), ⟨rfl, rfl, rfl, rfl, (by first|rfl|exact X.T (by omega)), trivial⟩, ⟨by dsimp only; omega, ⟨_, hap9.own, hA9⟩, Or.inr ⟨rfl, by dsimp only; rw [hout, htk], by dsimp only; rw [hput, htk]; simp⟩, by dsimp only; rw [hout]; simp; omega, hbl17.trans hap9.bel⟩, by dsimp only; omega⟩
    · rename_i hge
      have hie : i = xs.length := by omega
      subst hie
      repeat' (first|refine X.O ?_|refine X.A ?_|refine X.B ?_|refine X.C ?_|refine X.D ?_|refine X.E ?_|refine X.F ?_|refine X.G ?_|refine X.H ?_|refine X.I ?_|fail)
      refine ⟨vo, d, out, ⟨rfl, rfl, rfl, trivial⟩, ⟨to, oo, hAo⟩, ?_, hbl3⟩
      rw [List.drop_length, List.append_nil, List.take_length] at hst
      rcases hst with ⟨hd, hput⟩ | ⟨hd, hout, hput⟩
      · exact Or.inl ⟨hd, hput⟩
      · exact Or.inr ⟨hd, hout, hput⟩
  · rintro l' w3 ⟨vz, d, out, hag, ⟨to, oo, hAo⟩, hst, hbl3⟩
    refine WP.frame _ hag ?_
    clear hag
    have hz3 := hbl3.size
    have hbl03 : Below w.heap.size w w3 := hbl1.trans (Below.mono hbl3 (by omega))
    rcases hst with ⟨hd, hput⟩ | ⟨hd, hout, hput⟩
    · subst hd hput
      repeat' (first|refine X.O ?_|refine X.A ?_|refine X.B ?_|refine X.C ?_|refine X.D ?_|refine X.E ?_|refine X.F ?_|refine X.G ?_|refine X.H ?_|refine X.I ?_|fail)
      refine ⟨_, ret1 rfl (by rfl), ?_⟩
      exact ⟨⟨to, oo.lower (by omega), hAo⟩, hbl03⟩
    · subst hd hout
      have htol := hAo.1
      have hc3 := hc.tsame (TSame.below hbl03)
      repeat' (first|refine X.O ?_|refine X.A ?_|refine X.B ?_|refine X.C ?_|refine X.D ?_|refine X.E ?_|refine X.F ?_|refine X.G ?_|refine X.H ?_|refine X.I ?_|fail)
      refine WL.step (o_loadS (by rfl) (hb1'.below hbl3 (by omega)) (by rfl) ?_)
      refine WL.app3 (tr := (cC, cT, .int .i64 x.2.2)) (fun _ => by rfl) (by rfl) oo hc3.one (by unfold maxLen; omega) (by omega) (by omega) ?_
      intro p2 v6 w6 hap _
      have hts6 := hap.tsame (e1 := 22) (e2 := 2) oo (by decide) (by decide)
      have hA6 := (hAo.tsame hts6).snoc (x := x) (hc3.tsame hts6)
      repeat' (first|refine X.O ?_|refine X.A ?_|refine X.B ?_|refine X.C ?_|refine X.D ?_|refine X.E ?_|refine X.F ?_|refine X.G ?_|refine X.H ?_|refine X.I ?_|fail)
      refine ⟨_, ret1 rfl (by rfl), ?_⟩
      exact ⟨⟨_, hap.own.lower (by omega), by rw [hput]; exact hA6⟩, hbl03.trans (Below.mono hap.bel (by omega))⟩
end Go.Proofs
