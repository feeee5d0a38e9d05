/- The reference's cuts: comparing and putting in. -/
import Derived.Test.YtncilhecdihmeaaGreatF7
import Derived.Test.YtncilhecdihmeaaGreatF8
set_option maxRecDepth 8000
namespace Go.Rk
open Go.Fw Go.Proofs
def sgnI (z : Int) : Int := if z < 0 then -1 else if 0 < z then 1 else 0
theorem sgnI_neg {z : Int} (h : z < 0) : sgnI z = -1 := by unfold sgnI; rw [if_pos h]
theorem sgnI_pos {z : Int} (h : 0 < z) : sgnI z = 1 := by unfold sgnI; rw [if_neg (by omega), if_pos h]
theorem sgnI_zero : sgnI 0 = 0 := rfl
theorem sgnI_lt {z : Int} : sgnI z < 0 ↔ z < 0 := by
  unfold sgnI
  split
  · omega
  · split <;> omega
theorem sgnI_eq {z : Int} : sgnI z = 0 ↔ z = 0 := by
  unfold sgnI
  split
  · omega
  · split <;> omega
theorem less_cmp : ∀ xs ys : List Int, lessL xs ys = decide (cmpL xs ys < 0)
  | [], [] => rfl
  | [], _ :: _ => rfl
  | _ :: _, [] => rfl
  | x :: xs, y :: ys => by
    rw [lessL, cmpL, less_cmp xs ys]
    by_cases h : x = y
    · subst h
      rw [if_neg (by omega), if_neg (by unfold cmpI; rw [if_neg (by omega), if_neg (by omega)]; omega)]
    · rw [if_pos h]
      have hc : cmpI x y ≠ 0 := by
        unfold cmpI
        split
        · omega
        · split <;> omega
      rw [if_pos hc]
      unfold cmpI
      by_cases h2 : x < y
      · rw [if_pos h2, decide_eq_true h2]; rfl
      · rw [if_neg h2, if_pos (by omega), decide_eq_false h2]; rfl
theorem ord_cmpFo : Ord3 cmpFo := by rw [show cmpFo = lexL cmpT from funext fun a => funext fun b => cmpFo_lex a b]; exact ord_cmpT.lex
def cc (x y : SplD) : Int := cmpC (x.1, x.2.1) (y.1, y.2.1)
theorem putS_cons (x c : SplD) (r : List SplD) : putS (x :: r) c = if cc c x < 0 then c :: x :: r else if cc c x = 0 then (x.1, x.2.1, x.2.2 + c.2.2) :: r else x :: putS r c := rfl
end Go.Rk
namespace Go.Fw
open Go Go.RowKit
section
variable {P : Program} {N : Nat} {Q : Exit → Fr → World → Prop} {l : Fr} {w : World}
/-- An assertion where a block is left. -/
theorem WP.midB {c : Code} {id : Nat} {K : Fr → World → Prop} (M : Fr → World → Prop) (hx : WP P N c (inBlockE id (thenE M Q)) l w) (hk : ∀ l w, M l w → K l w) : WP P N c (inBlockE id (thenE K Q)) l w := fun a ha => by
  refine wp_mono (hx a ha) ?_
  intro e a' w' he
  cases e with
  | normal => obtain ⟨l', hl, hK⟩ := he; exact ⟨l', hl, hk _ _ hK⟩
  | exit id' =>
    obtain ⟨l', hl, hK⟩ := he
    simp only [inBlockE] at hK
    refine ⟨l', hl, ?_⟩
    simp only [inBlockE]
    split
    · rename_i e; rw [if_pos e] at hK; exact hk _ _ hK
    · rename_i e; rw [if_neg e] at hK; exact hK
  | goto n => exact he
  | ret => exact he
  | panic c => exact he
  | outgrown => exact he
end
end Go.Fw
namespace Go.Proofs
open Go Go.Fw Go.RowKit Go.Rk
theorem l03Nodes_any {lo hi : Nat} {w : World} {v : Value} {f : For} (h : ISS lo hi w v f) (hn : f.flatten.length ≤ 1000000000) :
    Does Tryz.prog 209 [v] w fun r w' => r = .int .i64 (f.flatten.length : Nat) ∧ w = w' := by
  have hm := h.len
  unfold maxLen at hm
  obtain ⟨a, c, hv⟩ := h.shape
  subst hv
  refine Does.enter Tryz.func209 Tryz.ntmps209 rfl (by rfl) ?_
  repeat' (first|refine X.O ?_|refine X.A ?_|refine X.B ?_|refine X.C ?_|refine X.D ?_|refine X.E ?_|refine X.F ?_|refine X.G ?_|refine X.H ?_|refine X.I ?_|fail)
  refine WP.loop (fun (i : Nat) => [(0, .slice a f.length c), (3, .int .i64 ((f.take i).flatten.length : Nat)), (4, .int .i64 (i : Nat))])
    (fun i w2 => i ≤ f.length ∧ w = w2) (fun i => f.length - i) 0 ⟨rfl, rfl, rfl, trivial⟩ ⟨by omega, rfl⟩ ?_
  rintro i _ ⟨hi1, rfl⟩
  have hle := flat_take_le f i
  repeat' (first|refine X.O ?_|refine X.A ?_|refine X.B ?_|refine X.C ?_|refine X.D ?_|refine X.E ?_|refine X.F ?_|refine X.G ?_|refine X.H ?_|refine X.I ?_|fail)
  first|refine X.J (fun _ => ?_) (fun _ => ?_)|refine X.L (fun _ => ?_) (fun _ => ?_)|refine X.M (fun _ => ?_) (fun _ => ?_)|refine X.R (fun _ => ?_) (fun _ => ?_)|fail
  · rename_i hlt
    have hli : i < f.length := by omega
    have h1 := flat_take_len hli
    have h2 := flat_take_le f (i + 1)
    repeat' (first|refine X.O ?_|refine X.A ?_|refine X.B ?_|refine X.C ?_|refine X.D ?_|refine X.E ?_|refine X.F ?_|refine X.G ?_|refine X.H ?_|refine X.I ?_|fail)
    refine WL.ixload (j := i) h (List.getElem?_eq_getElem hli) ?_
    intro p u hu
    obtain ⟨au, cu, hvu⟩ := hu.shape
    subst hvu
    repeat' (first|refine X.O ?_|refine X.A ?_|refine X.B ?_|refine X.C ?_|refine X.D ?_|refine X.E ?_|refine X.F ?_|refine X.G ?_|refine X.H ?_|refine X.I ?_|fail)
    exact ⟨i + 1, ⟨rfl, (by first|rfl|exact X.T (by omega)), (by first|rfl|exact X.T (by omega)), trivial⟩, ⟨by omega, rfl⟩, by omega⟩
  · rename_i hge
    have hie : i = f.length := by omega
    subst hie
    rw [List.take_length]
    repeat' (first|refine X.O ?_|refine X.A ?_|refine X.B ?_|refine X.C ?_|refine X.D ?_|refine X.E ?_|refine X.F ?_|refine X.G ?_|refine X.H ?_|refine X.I ?_|fail)
    refine ⟨_, ret1 rfl (by rfl), ?_⟩
    exact ⟨rfl, rfl⟩
theorem l03Before_any {lo hi lo' hi' : Nat} {w : World} {v v' : Value} {s t : List Int} (h : IS lo hi w v s) (h' : IS lo' hi' w v' t) :
    Does Tryz.prog 208 [v, v'] w fun r w' => r = .bool (decide (cmpT s t < 0)) ∧ Still w w' := by
  have hm := h.len
  have hm' := h'.len
  unfold maxLen at hm hm'
  obtain ⟨a, c, hv⟩ := h.shape
  obtain ⟨a', c', hv'⟩ := h'.shape
  subst hv hv'
  refine Does.enter Tryz.func208 Tryz.ntmps208 rfl (by rfl) ?_
  repeat' (first|refine X.O ?_|refine X.A ?_|refine X.B ?_|refine X.C ?_|refine X.D ?_|refine X.E ?_|refine X.F ?_|refine X.G ?_|refine X.H ?_|refine X.I ?_|fail)
  first|refine X.J (fun _ => ?_) (fun _ => ?_)|refine X.L (fun _ => ?_) (fun _ => ?_)|refine X.M (fun _ => ?_) (fun _ => ?_)|refine X.R (fun _ => ?_) (fun _ => ?_)|fail
  · rename_i hne
    repeat' (first|refine X.O ?_|refine X.A ?_|refine X.B ?_|refine X.C ?_|refine X.D ?_|refine X.E ?_|refine X.F ?_|refine X.G ?_|refine X.H ?_|refine X.I ?_|fail)
    refine ⟨_, ret1 rfl (by rfl), ?_⟩
    refine ⟨congrArg Value.bool (decide_eq_decide.2 ?_), Still.refl _⟩
    unfold cmpT
    rw [if_pos (by omega)]
    omega
  · rename_i heq
    repeat' (first|refine X.O ?_|refine X.A ?_|refine X.B ?_|refine X.C ?_|refine X.D ?_|refine X.E ?_|refine X.F ?_|refine X.G ?_|refine X.H ?_|refine X.I ?_|fail)
    refine WL.call (l01Less_any h' h) ?_
    rintro _ w1 ⟨rfl, hs1⟩
    repeat' (first|refine X.O ?_|refine X.A ?_|refine X.B ?_|refine X.C ?_|refine X.D ?_|refine X.E ?_|refine X.F ?_|refine X.G ?_|refine X.H ?_|refine X.I ?_|fail)
    refine ⟨_, ret1 rfl (by rfl), ?_⟩
    refine ⟨congrArg Value.bool ?_, hs1⟩
    rw [less_cmp]
    unfold cmpT
    rw [if_neg (by omega)]
theorem l05Compare_any {lo hi lo' hi' : Nat} {w : World} {v v' : Value} {f g : For} (h : ISS lo hi w v f) (h' : ISS lo' hi' w v' g) :
    Does Tryz.prog 210 [v, v'] w fun r w' => r = .int .i64 (sgnI (cmpTr f g)) ∧ Still w w' := by
  have hm := h.len
  have hm' := h'.len
  unfold maxLen at hm hm'
  obtain ⟨a, c, hv⟩ := h.shape
  obtain ⟨a', c', hv'⟩ := h'.shape
  subst hv hv'
  refine Does.enter Tryz.func210 Tryz.ntmps210 rfl (by rfl) ?_
  repeat' (first|refine X.O ?_|refine X.A ?_|refine X.B ?_|refine X.C ?_|refine X.D ?_|refine X.E ?_|refine X.F ?_|refine X.G ?_|refine X.H ?_|refine X.I ?_|fail)
  first|refine X.J (fun _ => ?_) (fun _ => ?_)|refine X.L (fun _ => ?_) (fun _ => ?_)|refine X.M (fun _ => ?_) (fun _ => ?_)|refine X.R (fun _ => ?_) (fun _ => ?_)|fail
  · rename_i hne
    have e : cmpTr f g = (f.length : Int) - g.length := by unfold cmpTr; rw [if_pos (by omega)]
    repeat' (first|refine X.O ?_|refine X.A ?_|refine X.B ?_|refine X.C ?_|refine X.D ?_|refine X.E ?_|refine X.F ?_|refine X.G ?_|refine X.H ?_|refine X.I ?_|fail)
    first|refine X.J (fun _ => ?_) (fun _ => ?_)|refine X.L (fun _ => ?_) (fun _ => ?_)|refine X.M (fun _ => ?_) (fun _ => ?_)|refine X.R (fun _ => ?_) (fun _ => ?_)|fail
    · repeat' (first|refine X.O ?_|refine X.A ?_|refine X.B ?_|refine X.C ?_|refine X.D ?_|refine X.E ?_|refine X.F ?_|refine X.G ?_|refine X.H ?_|refine X.I ?_|fail)
      refine ⟨_, ret1 rfl (by rfl), ?_⟩
      exact ⟨by rw [e, sgnI_neg (by omega)], Still.refl _⟩
    · repeat' (first|refine X.O ?_|refine X.A ?_|refine X.B ?_|refine X.C ?_|refine X.D ?_|refine X.E ?_|refine X.F ?_|refine X.G ?_|refine X.H ?_|refine X.I ?_|fail)
      refine ⟨_, ret1 rfl (by rfl), ?_⟩
      exact ⟨by rw [e, sgnI_pos (by omega)], Still.refl _⟩
  · rename_i heq
    have hle : f.length = g.length := by omega
    have e : cmpTr f g = cmpFo f g := by unfold cmpTr; rw [if_neg (by omega)]
    rw [e]
    repeat' (first|refine X.O ?_|refine X.A ?_|refine X.B ?_|refine X.C ?_|refine X.D ?_|refine X.E ?_|refine X.F ?_|refine X.G ?_|refine X.H ?_|refine X.I ?_|fail)
    refine WP.loop (fun (i : Nat) => [(0, .slice a f.length c), (1, .slice a' g.length c'), (5, .int .i64 (i : Nat))])
      (fun i w2 => i ≤ f.length ∧ cmpFo f g = cmpFo (f.drop i) (g.drop i) ∧ Still w w2) (fun i => f.length - i) 0 ⟨rfl, rfl, rfl, trivial⟩ ⟨by omega, rfl, Still.refl _⟩ ?_
    rintro i w2 ⟨hi1, he, hs2⟩
    repeat' (first|refine X.O ?_|refine X.A ?_|refine X.B ?_|refine X.C ?_|refine X.D ?_|refine X.E ?_|refine X.F ?_|refine X.G ?_|refine X.H ?_|refine X.I ?_|fail)
    first|refine X.J (fun _ => ?_) (fun _ => ?_)|refine X.L (fun _ => ?_) (fun _ => ?_)|refine X.M (fun _ => ?_) (fun _ => ?_)|refine X.R (fun _ => ?_) (fun _ => ?_)|fail
    · rename_i hlt
      have hli : i < f.length := by omega
      have hlj : i < g.length := by omega
      rw [cmpFo_step hli hlj] at he
      repeat' (first|refine X.O ?_|refine X.A ?_|refine X.B ?_|refine X.C ?_|refine X.D ?_|refine X.E ?_|refine X.F ?_|refine X.G ?_|refine X.H ?_|refine X.I ?_|fail)
      refine WP.drawn (fun w' => w'.heap = w2.heap) [(0, true), (1, true), (2, true), (3, true), (4, true), (5, true), (6, true), (7, true), (8, false), (9, true)] (by kernel_rfl) mixed ?_
      intro w3 hs3
      have hw3 : w3.heap = w2.heap := hs3.heap
      have hs13 := hs2.trans hs3
      repeat' (first|refine X.U rfl ?_|refine X.V rfl ?_|refine X.W rfl ?_|refine X.Y rfl ?_|refine X.Z rfl ?_|refine WS.nil ?_|fail)
      refine WS.ixload (j := i) rfl rfl (h.still IS.stable hs13) (List.getElem?_eq_getElem hli) (fun w' hw' => same_heap (hw'.trans hw3.symm)) hw3 ?_
      intro p1 u hu
      repeat' (first|refine X.U rfl ?_|refine X.V rfl ?_|refine X.W rfl ?_|refine X.Y rfl ?_|refine X.Z rfl ?_|refine WS.nil ?_|fail)
      refine WS.ixload (j := i) rfl rfl (h'.still IS.stable hs13) (List.getElem?_eq_getElem hlj) (fun w' hw' => same_heap (hw'.trans hw3.symm)) hw3 ?_
      intro p2 u2 hu2
      refine WS.call rfl (l03Before_any hu hu2) ?_
      rintro _ w4 ⟨rfl, hs4⟩
      have hw4 : w4.heap = w2.heap := hs4.heap.trans hw3
      refine ⟨hw4, ?_⟩
      repeat' (first|refine X.U rfl ?_|refine X.V rfl ?_|refine X.W rfl ?_|refine X.Y rfl ?_|refine X.Z rfl ?_|refine WS.nil ?_|fail)
      have hs14 := hs13.trans hs4
      repeat' (first|refine X.O ?_|refine X.A ?_|refine X.B ?_|refine X.C ?_|refine X.D ?_|refine X.E ?_|refine X.F ?_|refine X.G ?_|refine X.H ?_|refine X.I ?_|fail)
      first|refine X.J (fun _ => ?_) (fun _ => ?_)|refine X.L (fun _ => ?_) (fun _ => ?_)|refine X.M (fun _ => ?_) (fun _ => ?_)|refine X.R (fun _ => ?_) (fun _ => ?_)|fail
      · rename_i hneg
        repeat' (first|refine X.O ?_|refine X.A ?_|refine X.B ?_|refine X.C ?_|refine X.D ?_|refine X.E ?_|refine X.F ?_|refine X.G ?_|refine X.H ?_|refine X.I ?_|fail)
        refine ⟨_, ret1 rfl (by rfl), ?_⟩
        exact ⟨by rw [he, if_pos (by omega), sgnI_neg hneg], hs14⟩
      · rename_i hneg
        repeat' (first|refine X.O ?_|refine X.A ?_|refine X.B ?_|refine X.C ?_|refine X.D ?_|refine X.E ?_|refine X.F ?_|refine X.G ?_|refine X.H ?_|refine X.I ?_|fail)
        refine WP.drawn (fun w' => w'.heap = w4.heap) [(0, true), (1, true), (2, true), (3, true), (4, true), (5, true), (6, true), (7, true), (8, false), (9, true)] (by kernel_rfl) mixed ?_
        intro w5 hs5
        have hw5 : w5.heap = w4.heap := hs5.heap
        have hs15 := hs14.trans hs5
        repeat' (first|refine X.U rfl ?_|refine X.V rfl ?_|refine X.W rfl ?_|refine X.Y rfl ?_|refine X.Z rfl ?_|refine WS.nil ?_|fail)
        refine WS.ixload (j := i) rfl rfl (h'.still IS.stable hs15) (List.getElem?_eq_getElem hlj) (fun w' hw' => same_heap (hw'.trans hw5.symm)) hw5 ?_
        intro p3 u3 hu3
        repeat' (first|refine X.U rfl ?_|refine X.V rfl ?_|refine X.W rfl ?_|refine X.Y rfl ?_|refine X.Z rfl ?_|refine WS.nil ?_|fail)
        refine WS.ixload (j := i) rfl rfl (h.still IS.stable hs15) (List.getElem?_eq_getElem hli) (fun w' hw' => same_heap (hw'.trans hw5.symm)) hw5 ?_
        intro p4 u4 hu4
        refine WS.call rfl (l03Before_any hu3 hu4) ?_
        rintro _ w6 ⟨rfl, hs6⟩
        have hw6 : w6.heap = w4.heap := hs6.heap.trans hw5
        refine ⟨hw6, ?_⟩
        repeat' (first|refine X.U rfl ?_|refine X.V rfl ?_|refine X.W rfl ?_|refine X.Y rfl ?_|refine X.Z rfl ?_|refine WS.nil ?_|fail)
        have hs16 := hs15.trans hs6
        have han := ord_cmpT.anti g[i] f[i]
        repeat' (first|refine X.O ?_|refine X.A ?_|refine X.B ?_|refine X.C ?_|refine X.D ?_|refine X.E ?_|refine X.F ?_|refine X.G ?_|refine X.H ?_|refine X.I ?_|fail)
        first|refine X.J (fun _ => ?_) (fun _ => ?_)|refine X.L (fun _ => ?_) (fun _ => ?_)|refine X.M (fun _ => ?_) (fun _ => ?_)|refine X.R (fun _ => ?_) (fun _ => ?_)|fail
        · rename_i hneg2
          have hp := han.1 hneg2
          repeat' (first|refine X.O ?_|refine X.A ?_|refine X.B ?_|refine X.C ?_|refine X.D ?_|refine X.E ?_|refine X.F ?_|refine X.G ?_|refine X.H ?_|refine X.I ?_|fail)
          refine ⟨_, ret1 rfl (by rfl), ?_⟩
          exact ⟨by rw [he, if_pos (by omega), sgnI_pos hp], hs16⟩
        · rename_i hneg2
          have hz : cmpT f[i] g[i] = 0 := by
            rcases Int.lt_trichotomy (cmpT f[i] g[i]) 0 with h1 | h1 | h1
            · exact absurd h1 hneg
            · exact h1
            · exact absurd (han.2 h1) hneg2
          rw [if_neg (by omega)] at he
          repeat' (first|refine X.O ?_|refine X.A ?_|refine X.B ?_|refine X.C ?_|refine X.D ?_|refine X.E ?_|refine X.F ?_|refine X.G ?_|refine X.H ?_|refine X.I ?_|fail)
          exact ⟨i + 1, ⟨rfl, rfl, (by first|rfl|exact X.T (by omega)), trivial⟩, ⟨by omega, he, hs16⟩, by omega⟩
    · rename_i hge
      have hie : i = f.length := by omega
      subst hie
      rw [cmpFo_end (by omega) (by omega)] at he
      repeat' (first|refine X.O ?_|refine X.A ?_|refine X.B ?_|refine X.C ?_|refine X.D ?_|refine X.E ?_|refine X.F ?_|refine X.G ?_|refine X.H ?_|refine X.I ?_|fail)
      refine ⟨_, ret1 rfl (by rfl), ?_⟩
      exact ⟨by rw [he]; rfl, hs2⟩
theorem l05Order_any {lo hi lo2 hi2 lo' hi' lo2' hi2' : Nat} {w : World} {c t c' t' n n' : Value} {x y : SplD} (hc : ISS lo hi w c x.1) (ht : ISS lo2 hi2 w t x.2.1) (hc' : ISS lo' hi' w c' y.1) (ht' : ISS lo2' hi2' w t' y.2.1)
    (hn : x.1.flatten.length ≤ 1000000000) (hn' : y.1.flatten.length ≤ 1000000000) :
    Does Tryz.prog 192 [.agg #[c, t, n], .agg #[c', t', n']] w fun r w' => r = .int .i64 (sgnI (cc x y)) ∧ Below w.heap.size w w' := by
  have z1 := hc.hi_le
  have z2 := ht.hi_le
  have z3 := hc'.hi_le
  have z4 := ht'.hi_le
  refine Does.enter Tryz.func192 Tryz.ntmps192 rfl (by rfl) ?_
  refine WP.seq ?_
  refine WP.region ?_
  refine WL.step (o_box (by rfl) ?_)
  intro w1 hb1 hbl1 hz1
  refine WL.step (o_box (by rfl) ?_)
  intro w2 hb2 hbl2 hz2
  have hb1' : Blk w2 w.heap.size [c, t, n] _ := Blk.below hb1 hbl2 (by omega)
  have hb2' : Blk w2 w1.heap.size [c', t', n'] _ := hb2
  have hbl02 : Below w.heap.size w w2 := hbl1.trans (Below.mono hbl2 (by omega))
  have hC := hc.below IS.stable hbl02 z1
  have hT := ht.below IS.stable hbl02 z2
  have hC' := hc'.below IS.stable hbl02 z3
  have hT' := ht'.below IS.stable hbl02 z4
  repeat' (first|refine X.O ?_|refine X.A ?_|refine X.B ?_|refine X.C ?_|refine X.D ?_|refine X.E ?_|refine X.F ?_|refine X.G ?_|refine X.H ?_|refine X.I ?_|fail)
  refine WP.drawn (fun w' => w'.heap = w2.heap) [(0, true), (1, true), (3, true), (4, true), (2, false), (5, false), (6, true), (7, true)] (by kernel_rfl) mixed ?_
  intro w3 hs3
  have hw3 : w3.heap = w2.heap := hs3.heap
  refine WS.fld rfl rfl (fun w' h => hb1'.keep (by rw [h])) hw3 ?_
  intro p1
  refine WS.fld rfl rfl (fun w' h => hb2'.keep (by rw [h])) hw3 ?_
  intro p2
  refine WS.call rfl (l03Nodes_any (hC.still IS.stable hs3) hn) ?_
  rintro _ _ ⟨rfl, rfl⟩
  refine ⟨hw3, ?_⟩
  refine WS.call rfl (l03Nodes_any (hC'.still IS.stable hs3) hn') ?_
  rintro _ _ ⟨rfl, rfl⟩
  refine ⟨hw3, ?_⟩
  repeat' (first|refine X.U rfl ?_|refine X.V rfl ?_|refine X.W rfl ?_|refine X.Y rfl ?_|refine X.Z rfl ?_|refine WS.nil ?_|fail)
  have hbl03 : Below w.heap.size w w3 := hbl02.trans (hs3.below _)
  have hb13 := hb1'.still hs3
  have hb23 := hb2'.still hs3
  repeat' (first|refine X.O ?_|refine X.A ?_|refine X.B ?_|refine X.C ?_|refine X.D ?_|refine X.E ?_|refine X.F ?_|refine X.G ?_|refine X.H ?_|refine X.I ?_|fail)
  first|refine X.J (fun _ => ?_) (fun _ => ?_)|refine X.L (fun _ => ?_) (fun _ => ?_)|refine X.M (fun _ => ?_) (fun _ => ?_)|refine X.R (fun _ => ?_) (fun _ => ?_)|fail
  · rename_i hne
    have e : cc x y = (x.1.flatten.length : Int) - y.1.flatten.length := by
      have hf : cmpF x.1 y.1 = (x.1.flatten.length : Int) - y.1.flatten.length := by unfold cmpF; rw [if_pos (by omega)]
      unfold cc cmpC
      dsimp only
      rw [if_pos (by rw [hf]; omega), hf]
    repeat' (first|refine X.O ?_|refine X.A ?_|refine X.B ?_|refine X.C ?_|refine X.D ?_|refine X.E ?_|refine X.F ?_|refine X.G ?_|refine X.H ?_|refine X.I ?_|fail)
    first|refine X.J (fun _ => ?_) (fun _ => ?_)|refine X.L (fun _ => ?_) (fun _ => ?_)|refine X.M (fun _ => ?_) (fun _ => ?_)|refine X.R (fun _ => ?_) (fun _ => ?_)|fail
    · repeat' (first|refine X.O ?_|refine X.A ?_|refine X.B ?_|refine X.C ?_|refine X.D ?_|refine X.E ?_|refine X.F ?_|refine X.G ?_|refine X.H ?_|refine X.I ?_|fail)
      refine ⟨_, ret1 rfl (by rfl), ?_⟩
      exact ⟨by rw [e, sgnI_neg (by omega)], hbl03⟩
    · repeat' (first|refine X.O ?_|refine X.A ?_|refine X.B ?_|refine X.C ?_|refine X.D ?_|refine X.E ?_|refine X.F ?_|refine X.G ?_|refine X.H ?_|refine X.I ?_|fail)
      refine ⟨_, ret1 rfl (by rfl), ?_⟩
      exact ⟨by rw [e, sgnI_pos (by omega)], hbl03⟩
  · rename_i heq
    have hf : cmpF x.1 y.1 = cmpTr x.1 y.1 := by unfold cmpF; rw [if_neg (by omega)]
    repeat' (first|refine X.O ?_|refine X.A ?_|refine X.B ?_|refine X.C ?_|refine X.D ?_|refine X.E ?_|refine X.F ?_|refine X.G ?_|refine X.H ?_|refine X.I ?_|fail)
    refine WL.fld hb13 ?_
    intro p3
    refine WL.fld hb23 ?_
    intro p4
    refine WL.call (l05Compare_any (hC.still IS.stable hs3) (hC'.still IS.stable hs3)) ?_
    rintro _ w4 ⟨rfl, hs4⟩
    have hs34 := hs3.trans hs4
    repeat' (first|refine X.O ?_|refine X.A ?_|refine X.B ?_|refine X.C ?_|refine X.D ?_|refine X.E ?_|refine X.F ?_|refine X.G ?_|refine X.H ?_|refine X.I ?_|fail)
    first|refine X.J (fun _ => ?_) (fun _ => ?_)|refine X.L (fun _ => ?_) (fun _ => ?_)|refine X.M (fun _ => ?_) (fun _ => ?_)|refine X.R (fun _ => ?_) (fun _ => ?_)|fail
    · rename_i hne
      have e : cc x y = cmpTr x.1 y.1 := by
        unfold cc cmpC
        dsimp only
        rw [hf, if_pos (fun h => hne (by rw [h]; rfl))]
      repeat' (first|refine X.O ?_|refine X.A ?_|refine X.B ?_|refine X.C ?_|refine X.D ?_|refine X.E ?_|refine X.F ?_|refine X.G ?_|refine X.H ?_|refine X.I ?_|fail)
      refine ⟨_, ret1 rfl (by rfl), ?_⟩
      exact ⟨by rw [e], hbl03.trans (hs4.below _)⟩
    · rename_i hze
      have hz0 : cmpTr x.1 y.1 = 0 := sgnI_eq.1 (by omega)
      have e : cc x y = cmpTr x.2.1 y.2.1 := by
        unfold cc cmpC
        dsimp only
        rw [hf, if_neg (by omega)]
      repeat' (first|refine X.O ?_|refine X.A ?_|refine X.B ?_|refine X.C ?_|refine X.D ?_|refine X.E ?_|refine X.F ?_|refine X.G ?_|refine X.H ?_|refine X.I ?_|fail)
      refine WL.fld (hb13.still hs4) ?_
      intro p5
      refine WL.fld (hb23.still hs4) ?_
      intro p6
      refine WL.call (l05Compare_any (hT.still IS.stable hs34) (hT'.still IS.stable hs34)) ?_
      rintro _ w5 ⟨rfl, hs5⟩
      repeat' (first|refine X.O ?_|refine X.A ?_|refine X.B ?_|refine X.C ?_|refine X.D ?_|refine X.E ?_|refine X.F ?_|refine X.G ?_|refine X.H ?_|refine X.I ?_|fail)
      refine ⟨_, ret1 rfl (by rfl), ?_⟩
      exact ⟨by rw [e], hbl03.trans ((hs4.trans hs5).below _)⟩
set_option maxHeartbeats 1000000 in
theorem l05Put_any {lo : Nat} {w : World} {v : Value} {ts : List Tri} {xs : List SplD} {c : Tri} {x : SplD} (h : Own3 lo 111 w v ts) (hx : SplG w ts xs) (hc : SplR w c (x.1, x.2.1) x.2.2)
    (hn : xs.length ≤ 100000) (hcb : 0 ≤ x.2.2 ∧ x.2.2 ≤ 1000000) (hcf : x.1.flatten.length ≤ 1000000000) (hxb : ∀ y ∈ xs, (0 ≤ y.2.2 ∧ y.2.2 ≤ 1000000) ∧ y.1.flatten.length ≤ 1000000000) :
    Does Tryz.prog 177 [v, .agg c.cells.toArray] w fun r w' => (∃ ts', Own3 w.heap.size 111 w' r ts' ∧ SplG w' ts' (putS xs x)) ∧ Below w.heap.size w w' := by
  obtain ⟨cC, cT, cN⟩ := c
  have hcn : cN = .int .i64 x.2.2 := hc.2.2
  subst hcn
  obtain ⟨a, cp, hv, _⟩ := h.shape
  have hxl := hx.1
  refine Does.enter Tryz.func177 Tryz.ntmps177 rfl (by rfl) ?_
  rw [hv]
  repeat' (first|refine X.O ?_|refine X.A ?_|refine X.B ?_|refine X.C ?_|refine X.D ?_|refine X.E ?_|refine X.F ?_|refine X.G ?_|refine X.H ?_|refine X.I ?_|fail)
  refine WL.step (o_box (v := .agg #[cC, cT, .int .i64 x.2.2]) (by rfl) ?_)
  intro w1 hb1 hbl1 hz1
  have hb1' : Blk w1 w.heap.size [cC, cT, .int .i64 x.2.2] _ := hb1
  repeat' (first|refine X.O ?_|refine X.A ?_|refine X.B ?_|refine X.C ?_|refine X.D ?_|refine X.E ?_|refine X.F ?_|refine X.G ?_|refine X.H ?_|refine X.I ?_|fail)
  refine WL.step (o_lit30 ?_)
  intro v2 w2 hown2 hbl2 hz2
  have hbl02 : Below w.heap.size w w2 := hbl1.trans (Below.mono hbl2 (by omega))
  have hb12 := hb1'.below hbl2 (by omega)
  have h2 := h.below hbl02 (Nat.le_refl _)
  rw [hv] at h2
  have hx2 := hx.tsame (TSame.below hbl02)
  have hc2 := hc.tsame (TSame.below hbl02)
  repeat' (first|refine X.O ?_|refine X.A ?_|refine X.B ?_|refine X.C ?_|refine X.D ?_|refine X.E ?_|refine X.F ?_|refine X.G ?_|refine X.H ?_|refine X.I ?_|fail)
  refine WP.midB (fun l' wz => ∃ (vz : Value) (d : Bool) (out : List SplD), Agree l' [(3, .pointer (some ⟨w.heap.size, 0, none⟩)), (5, vz), (6, .bool d)] ∧ (∃ to, Own3 w1.heap.size 111 wz vz to ∧ SplG wz to out) ∧ ((d = true ∧ out = putS xs x) ∨ (d = false ∧ out = xs ∧ putS xs x = xs ++ [x])) ∧ Below w1.heap.size w1 wz) ?_ ?_
  · refine WP.loop (fun (s : Nat × Value × Bool × List SplD) => [(0, .slice a ts.length cp), (3, .pointer (some ⟨w.heap.size, 0, none⟩)), (5, s.2.1), (6, .bool s.2.2.1), (7, .int .i64 (s.1 : Nat))])
      (fun s w3 => s.1 ≤ xs.length ∧ (∃ to, Own3 w1.heap.size 111 w3 s.2.1 to ∧ SplG w3 to s.2.2.2) ∧ ((s.2.2.1 = true ∧ s.2.2.2 ++ xs.drop s.1 = putS xs x) ∨ (s.2.2.1 = false ∧ s.2.2.2 = xs.take s.1 ∧ putS xs x = xs.take s.1 ++ putS (xs.drop s.1) x)) ∧ s.2.2.2.length ≤ s.1 + 1 ∧ Below w1.heap.size w1 w3)
      (fun s => xs.length - s.1) (0, v2, false, []) ⟨rfl, rfl, rfl, rfl, rfl, trivial⟩ ⟨by dsimp only; omega, ⟨[], hown2, SplG.nil _⟩, Or.inr ⟨rfl, rfl, rfl⟩, by simp, hbl2⟩ ?_
    rintro ⟨i, vo, d, out⟩ w3 ⟨hi1, ⟨to, oo, hAo⟩, hst, hol, hbl3⟩
    dsimp only at hi1 oo hAo hst hol ⊢
    have hz3 := hbl3.size
    have hbl03 : Below w.heap.size w w3 := hbl1.trans (Below.mono hbl3 (by omega))
    have hb13 := hb1'.below hbl3 (by omega)
    have h3 := h.below hbl03 (Nat.le_refl _)
    rw [hv] at h3
    have hx3 := hx.tsame (TSame.below hbl03)
    have hc3 := hc.tsame (TSame.below hbl03)
    have htol := hAo.1
    repeat' (first|refine X.O ?_|refine X.A ?_|refine X.B ?_|refine X.C ?_|refine X.D ?_|refine X.E ?_|refine X.F ?_|refine X.G ?_|refine X.H ?_|refine X.I ?_|fail)
    refine WL.step (o_len3 (by rfl) ?_)
    repeat' (first|refine X.O ?_|refine X.A ?_|refine X.B ?_|refine X.C ?_|refine X.D ?_|refine X.E ?_|refine X.F ?_|refine X.G ?_|refine X.H ?_|refine X.I ?_|fail)
    first|refine X.J (fun _ => ?_) (fun _ => ?_)|refine X.L (fun _ => ?_) (fun _ => ?_)|refine X.M (fun _ => ?_) (fun _ => ?_)|refine X.R (fun _ => ?_) (fun _ => ?_)|fail
    · rename_i hlt
      have hli : i < xs.length := by omega
      have hlit : i < ts.length := by omega
      have hsj := hx3.2 i _ _ (List.getElem?_eq_getElem hlit) (List.getElem?_eq_getElem hli)
      have hyb := hxb _ (List.getElem_mem hli)
      have hdr : xs.drop i = xs[i] :: xs.drop (i + 1) := List.drop_eq_getElem_cons hli
      have htk : xs.take (i + 1) = xs.take i ++ [xs[i]] := List.take_succ_eq_append_getElem hli
      obtain ⟨⟨sc, st, sn⟩, hsE⟩ : ∃ s, ts[i] = s := ⟨_, rfl⟩
      rw [hsE] at hsj
      obtain ⟨y, hyE⟩ : ∃ y, xs[i] = y := ⟨_, rfl⟩
      rw [hyE] at hsj hyb hdr htk
      have hsn : sn = .int .i64 y.2.2 := hsj.2.2
      subst hsn
      have hone3 : ∀ u ∈ [sc, st, Value.int .i64 y.2.2], u.oneCell' = true := fun u hu => by
        have h1 := hsj.one
        simp only [List.mem_cons, List.not_mem_nil, or_false] at hu
        rcases hu with rfl | rfl | rfl
        · exact h1.1
        · exact h1.2.1
        · rfl
      rcases hst with ⟨hd, hput⟩ | ⟨hd, hout, hput⟩
      · subst hd
        rw [hdr] at hput
        repeat' (first|refine X.O ?_|refine X.A ?_|refine X.B ?_|refine X.C ?_|refine X.D ?_|refine X.E ?_|refine X.F ?_|refine X.G ?_|refine X.H ?_|refine X.I ?_|fail)
        refine WL.ixload3 (j := i) h3 (by rw [List.getElem?_eq_getElem hlit, hsE]) ?_
        intro p1
        refine WL.var (vs := [sc, st, .int .i64 y.2.2]) (fun _ => by rfl) (by rfl) hone3 ?_
        intro w4 hb4 hbl4 hz4
        repeat' (first|refine X.O ?_|refine X.A ?_|refine X.B ?_|refine X.C ?_|refine X.D ?_|refine X.E ?_|refine X.F ?_|refine X.G ?_|refine X.H ?_|refine X.I ?_|fail)
        refine WL.step (o_loadS (by rfl) hb4 (by rfl) ?_)
        have oo4 := oo.below hbl4 (Nat.le_refl _)
        have hsj4 := hsj.tsame (TSame.below hbl4)
        refine WL.app3 (tr := (sc, st, .int .i64 y.2.2)) (fun _ => by rfl) (by rfl) oo4 hsj4.one (by unfold maxLen; omega) (by omega) (by omega) ?_
        intro p2 v5 w5 hap _
        have hts5 := hap.tsame (e1 := 22) (e2 := 2) oo4 (by decide) (by decide)
        have hA5 := ((hAo.tsame (TSame.below hbl4)).tsame hts5).snoc (x := y) (hsj4.tsame hts5)
        repeat' (first|refine X.O ?_|refine X.A ?_|refine X.B ?_|refine X.C ?_|refine X.D ?_|refine X.E ?_|refine X.F ?_|refine X.G ?_|refine X.H ?_|refine X.I ?_|fail)
        exact ⟨(i + 1, v5, true, out ++ [y]), ⟨rfl, rfl, rfl, rfl, (by first|rfl|exact X.T (by omega)), trivial⟩, ⟨by dsimp only; omega, ⟨_, hap.own, hA5⟩, Or.inl ⟨rfl, by dsimp only; rw [← hput]; simp⟩, by dsimp only; rw [List.length_append, List.length_singleton]; omega, (hbl3.trans (Below.mono hbl4 (by omega))).trans hap.bel⟩, by dsimp only; omega⟩
      · subst hd
        rw [hdr, putS_cons] at hput
        repeat' (first|refine X.O ?_|refine X.A ?_|refine X.B ?_|refine X.C ?_|refine X.D ?_|refine X.E ?_|refine X.F ?_|refine X.G ?_|refine X.H ?_|refine X.I ?_|fail)
        refine WP.drawn (fun w' => Below w3.heap.size w3 w') [(0, true), (1, true), (2, true), (3, true), (4, true), (5, false), (6, true)] (by kernel_rfl) mixed ?_
        intro w4 hs4
        have hz4 := hs4.size
        have hS4 : Below w3.heap.size w3 w4 := hs4.below _
        refine WS.q rfl (q_loadS (by rfl) (fun w' h => hb13.below h (by omega)) (by rfl)) hS4 ?_
        refine WS.q rfl (q_s (by rfl)) hS4 ?_
        refine WS.q rfl (q_s (by rfl)) hS4 ?_
        refine WS.ixload3 (j := i) rfl rfl (fun w' h => h3.below h (Nat.le_refl _)) (by rw [List.getElem?_eq_getElem hlit, hsE]) hS4 ?_
        intro p1
        have hc4 := hc3.tsame (TSame.below hS4)
        have hsj4 := hsj.tsame (TSame.below hS4)
        refine WS.call rfl (l05Order_any (x := x) (y := y) (c := cC) (t := cT) (n := .int .i64 x.2.2) (c' := sc) (t' := st) (n' := .int .i64 y.2.2) hc4.1.rd hc4.2.1.rd hsj4.1.rd hsj4.2.1.rd hcf hyb.2) ?_
        rintro _ w5 ⟨rfl, hbl5⟩
        have hz5 := hbl5.size
        have hS5 := hS4.trans (Below.mono hbl5 (by omega))
        refine ⟨hS5, ?_⟩
        repeat' (first|refine X.U rfl ?_|refine X.V rfl ?_|refine X.W rfl ?_|refine X.Y rfl ?_|refine X.Z rfl ?_|refine WS.nil ?_|fail)
        have hb15 := hb13.below hS5 (by omega)
        have h5 := h3.below hS5 (Nat.le_refl _)
        have oo5 := oo.below hS5 (Nat.le_refl _)
        have hA5 := hAo.tsame (TSame.below hS5)
        have hsj5 := hsj.tsame (TSame.below hS5)
        have hc5 := hc3.tsame (TSame.below hS5)
        have hsl : sgnI (cc x y) < 0 ↔ cc x y < 0 := sgnI_lt
        have hse : sgnI (cc x y) = 0 ↔ cc x y = 0 := sgnI_eq
        obtain ⟨o, ho⟩ : ∃ o, sgnI (cc x y) = o := ⟨_, rfl⟩
        rw [ho] at hsl hse ⊢
        repeat' (first|refine X.O ?_|refine X.A ?_|refine X.B ?_|refine X.C ?_|refine X.D ?_|refine X.E ?_|refine X.F ?_|refine X.G ?_|refine X.H ?_|refine X.I ?_|fail)
        first|refine X.J (fun _ => ?_) (fun _ => ?_)|refine X.L (fun _ => ?_) (fun _ => ?_)|refine X.M (fun _ => ?_) (fun _ => ?_)|refine X.R (fun _ => ?_) (fun _ => ?_)|fail
        · rename_i hneg
          rw [if_pos (hsl.1 hneg)] at hput
          have hoz : ¬ o = 0 := by omega
          repeat' (first|refine X.O ?_|refine X.A ?_|refine X.B ?_|refine X.C ?_|refine X.D ?_|refine X.E ?_|refine X.F ?_|refine X.G ?_|refine X.H ?_|refine X.I ?_|fail)
          refine WL.step (o_loadS (by rfl) hb15 (by rfl) ?_)
          refine WL.app3 (tr := (cC, cT, .int .i64 x.2.2)) (fun _ => by rfl) (by rfl) oo5 hc5.one (by unfold maxLen; omega) (by omega) (by omega) ?_
          intro p2 v6 w6 hap _
          have hz6 := hap.bel.size
          have hts6 := hap.tsame (e1 := 22) (e2 := 2) oo5 (by decide) (by decide)
          have hA6 := (hA5.tsame hts6).snoc (x := x) (hc5.tsame hts6)
          have hbl16 : Below w1.heap.size w1 w6 := (hbl3.trans (Below.mono hS5 (by omega))).trans hap.bel
          have h6 : Own3 lo 111 w6 (.slice a ts.length cp) ts := by
            have := h.below (hbl1.trans (Below.mono hbl16 (by omega))) (Nat.le_refl _)
            rw [hv] at this; exact this
          have hsj6 := hsj5.tsame hts6
          repeat' (first|refine X.O ?_|refine X.A ?_|refine X.B ?_|refine X.C ?_|refine X.D ?_|refine X.E ?_|refine X.F ?_|refine X.G ?_|refine X.H ?_|refine X.I ?_|fail)
          refine WL.ixload3 (j := i) h6 (by rw [List.getElem?_eq_getElem hlit, hsE]) ?_
          intro p3
          refine WL.var (vs := [sc, st, .int .i64 y.2.2]) (fun _ => by rfl) (by rfl) hone3 ?_
          intro w7 hb7 hbl7 hz7
          repeat' (first|refine X.O ?_|refine X.A ?_|refine X.B ?_|refine X.C ?_|refine X.D ?_|refine X.E ?_|refine X.F ?_|refine X.G ?_|refine X.H ?_|refine X.I ?_|fail)
          refine WP.condD (by rfl) (fun hb => absurd hb hoz) (fun _ => ?_)
          repeat' (first|refine X.O ?_|refine X.A ?_|refine X.B ?_|refine X.C ?_|refine X.D ?_|refine X.E ?_|refine X.F ?_|refine X.G ?_|refine X.H ?_|refine X.I ?_|fail)
          refine WL.step (o_loadS (by rfl) hb7 (by rfl) ?_)
          have oo7 := hap.own.below hbl7 (Nat.le_refl _)
          have hsj7 := hsj6.tsame (TSame.below hbl7)
          refine WL.app3 (tr := (sc, st, .int .i64 y.2.2)) (fun _ => by rfl) (by rfl) oo7 hsj7.one (by rw [List.length_append]; unfold maxLen; simp; omega) (by rw [List.length_append]; simp; omega) (by omega) ?_
          intro p4 v8 w8 hap8 _
          have hts8 := hap8.tsame (e1 := 22) (e2 := 2) oo7 (by decide) (by decide)
          have hA8 := ((hA6.tsame (TSame.below hbl7)).tsame hts8).snoc (x := y) (hsj7.tsame hts8)
          repeat' (first|refine X.O ?_|refine X.A ?_|refine X.B ?_|refine X.C ?_|refine X.D ?_|refine X.E ?_|refine X.F ?_|refine X.G ?_|refine X.H ?_|refine X.I ?_|fail)
          exact ⟨(i + 1, v8, true, (out ++ [x]) ++ [y]), ⟨rfl, rfl, rfl, rfl, (by first|rfl|exact X.T (by omega)), trivial⟩, ⟨by dsimp only; omega, ⟨_, hap8.own, hA8⟩, Or.inl ⟨rfl, by dsimp only; rw [hput, hout]; simp⟩, by dsimp only; rw [hout]; simp; omega, (hbl16.trans (Below.mono hbl7 (by omega))).trans hap8.bel⟩, by dsimp only; omega⟩
        · rename_i hneg
          rw [if_neg (fun h => hneg (hsl.2 h))] at hput
          repeat' (first|refine X.O ?_|refine X.A ?_|refine X.B ?_|refine X.C ?_|refine X.D ?_|refine X.E ?_|refine X.F ?_|refine X.G ?_|refine X.H ?_|refine X.I ?_|fail)
          refine WL.ixload3 (j := i) h5 (by rw [List.getElem?_eq_getElem hlit, hsE]) ?_
          intro p3
          refine WL.var (vs := [sc, st, .int .i64 y.2.2]) (fun _ => by rfl) (by rfl) hone3 ?_
          intro w7 hb7 hbl7 hz7
          have oo7 := oo5.below hbl7 (Nat.le_refl _)
          have hsj7 := hsj5.tsame (TSame.below hbl7)
          have hA7 := hA5.tsame (TSame.below hbl7)
          have hb17 := hb15.below hbl7 (by omega)
          have hbl17 : Below w1.heap.size w1 w7 := (hbl3.trans (Below.mono hS5 (by omega))).trans (Below.mono hbl7 (by omega))
          repeat' (first|refine X.O ?_|refine X.A ?_|refine X.B ?_|refine X.C ?_|refine X.D ?_|refine X.E ?_|refine X.F ?_|refine X.G ?_|refine X.H ?_|refine X.I ?_|fail)
          first|refine X.J (fun _ => ?_) (fun _ => ?_)|refine X.L (fun _ => ?_) (fun _ => ?_)|refine X.M (fun _ => ?_) (fun _ => ?_)|refine X.R (fun _ => ?_) (fun _ => ?_)|fail
          · rename_i hoz
            rw [if_pos (hse.1 hoz)] at hput
            repeat' (first|refine X.O ?_|refine X.A ?_|refine X.B ?_|refine X.C ?_|refine X.D ?_|refine X.E ?_|refine X.F ?_|refine X.G ?_|refine X.H ?_|refine X.I ?_|fail)
            refine WL.fld hb7 ?_
            intro p4
            refine WL.fld hb17 ?_
            intro p5
            repeat' (first|refine X.O ?_|refine X.A ?_|refine X.B ?_|refine X.C ?_|refine X.D ?_|refine X.E ?_|refine X.F ?_|refine X.G ?_|refine X.H ?_|refine X.I ?_|fail)
            refine WL.fldst hb7 ?_
            intro p6 w8 hb8 hbut8
            have hz8 := hbut8.size
            have hbl78 : Below w7.heap.size w7 w7 := Below.refl _ _
            have oo8 : Own3 w1.heap.size 111 w8 vo to := oo7.keep fun b hb => hbut8.block b (by have := (oo5.block b hb).2; omega)
            have hts8 : TSame 22 2 w7 w8 := TSame.but hbut8 hb7 (by decide) (by decide)
            have hsj8 := hsj7.tsame hts8
            repeat' (first|refine X.O ?_|refine X.A ?_|refine X.B ?_|refine X.C ?_|refine X.D ?_|refine X.E ?_|refine X.F ?_|refine X.G ?_|refine X.H ?_|refine X.I ?_|fail)
            refine WL.step (o_loadS (by rfl) hb8 (by rfl) ?_)
            refine WL.app3 (tr := (sc, st, .int .i64 (y.2.2 + x.2.2))) (fun _ => by rfl) (by rfl) oo8 ⟨hsj8.one.1, hsj8.one.2.1, rfl⟩ (by unfold maxLen; omega) (by omega) (by omega) ?_
            intro p7 v9 w9 hap9 _
            have hts9 := hap9.tsame (e1 := 22) (e2 := 2) oo8 (by decide) (by decide)
            have hsj9 := hsj8.tsame hts9
            have hA9 := ((hA7.tsame hts8).tsame hts9).snoc (t := (sc, st, .int .i64 (y.2.2 + x.2.2))) (x := (y.1, y.2.1, y.2.2 + x.2.2)) ⟨hsj9.1, hsj9.2.1, rfl⟩
            repeat' (first|refine X.O ?_|refine X.A ?_|refine X.B ?_|refine X.C ?_|refine X.D ?_|refine X.E ?_|refine X.F ?_|refine X.G ?_|refine X.H ?_|refine X.I ?_|fail)
            exact ⟨(i + 1, v9, true, out ++ [(y.1, y.2.1, y.2.2 + x.2.2)]), ⟨rfl, rfl, rfl, rfl, (by first|rfl|exact X.T (by omega)), trivial⟩, ⟨by dsimp only; omega, ⟨_, hap9.own, hA9⟩, Or.inl ⟨rfl, by dsimp only; rw [hput, hout]; simp⟩, by dsimp only; rw [hout]; simp; omega, (hbl17.trans (hbut8.below (by omega))).trans hap9.bel⟩, by dsimp only; omega⟩
          · rename_i hoz
            rw [if_neg (fun h => hoz (hse.2 h))] at hput
            repeat' (first|refine X.O ?_|refine X.A ?_|refine X.B ?_|refine X.C ?_|refine X.D ?_|refine X.E ?_|refine X.F ?_|refine X.G ?_|refine X.H ?_|refine X.I ?_|fail)
            refine WL.step (o_loadS (by rfl) hb7 (by rfl) ?_)
            refine WL.app3 (tr := (sc, st, .int .i64 y.2.2)) (fun _ => by rfl) (by rfl) oo7 hsj7.one (by unfold maxLen; omega) (by omega) (by omega) ?_
            intro p7 v9 w9 hap9 _
            have hts9 := hap9.tsame (e1 := 22) (e2 := 2) oo7 (by decide) (by decide)
            have hA9 := (hA7.tsame hts9).snoc (x := y) (hsj7.tsame hts9)
            repeat' (first|refine X.O ?_|refine X.A ?_|refine X.B ?_|refine X.C ?_|refine X.D ?_|refine X.E ?_|refine X.F ?_|refine X.G ?_|refine X.H ?_|refine X.I ?_|fail)
            exact ⟨(i + 1, v9, false, out ++ [y]), ⟨rfl, rfl, rfl, rfl, (by first|rfl|exact X.T (by omega)), trivial⟩, ⟨by dsimp only; omega, ⟨_, hap9.own, hA9⟩, Or.inr ⟨rfl, by dsimp only; rw [hout, htk], by dsimp only; rw [hput, htk]; simp⟩, by dsimp only; rw [hout]; simp; omega, hbl17.trans hap9.bel⟩, by dsimp only; omega⟩
    · rename_i hge
      have hie : i = xs.length := by omega
      subst hie
      repeat' (first|refine X.O ?_|refine X.A ?_|refine X.B ?_|refine X.C ?_|refine X.D ?_|refine X.E ?_|refine X.F ?_|refine X.G ?_|refine X.H ?_|refine X.I ?_|fail)
      refine ⟨vo, d, out, ⟨rfl, rfl, rfl, trivial⟩, ⟨to, oo, hAo⟩, ?_, hbl3⟩
      rw [List.drop_length, List.append_nil, List.take_length] at hst
      rcases hst with ⟨hd, hput⟩ | ⟨hd, hout, hput⟩
      · exact Or.inl ⟨hd, hput⟩
      · exact Or.inr ⟨hd, hout, hput⟩
  · rintro l' w3 ⟨vz, d, out, hag, ⟨to, oo, hAo⟩, hst, hbl3⟩
    refine WP.frame _ hag ?_
    clear hag
    have hz3 := hbl3.size
    have hbl03 : Below w.heap.size w w3 := hbl1.trans (Below.mono hbl3 (by omega))
    rcases hst with ⟨hd, hput⟩ | ⟨hd, hout, hput⟩
    · subst hd hput
      repeat' (first|refine X.O ?_|refine X.A ?_|refine X.B ?_|refine X.C ?_|refine X.D ?_|refine X.E ?_|refine X.F ?_|refine X.G ?_|refine X.H ?_|refine X.I ?_|fail)
      refine ⟨_, ret1 rfl (by rfl), ?_⟩
      exact ⟨⟨to, oo.lower (by omega), hAo⟩, hbl03⟩
    · subst hd hout
      have htol := hAo.1
      have hc3 := hc.tsame (TSame.below hbl03)
      repeat' (first|refine X.O ?_|refine X.A ?_|refine X.B ?_|refine X.C ?_|refine X.D ?_|refine X.E ?_|refine X.F ?_|refine X.G ?_|refine X.H ?_|refine X.I ?_|fail)
      refine WL.step (o_loadS (by rfl) (hb1'.below hbl3 (by omega)) (by rfl) ?_)
      refine WL.app3 (tr := (cC, cT, .int .i64 x.2.2)) (fun _ => by rfl) (by rfl) oo hc3.one (by unfold maxLen; omega) (by omega) (by omega) ?_
      intro p2 v6 w6 hap _
      have hts6 := hap.tsame (e1 := 22) (e2 := 2) oo (by decide) (by decide)
      have hA6 := (hAo.tsame hts6).snoc (x := x) (hc3.tsame hts6)
      repeat' (first|refine X.O ?_|refine X.A ?_|refine X.B ?_|refine X.C ?_|refine X.D ?_|refine X.E ?_|refine X.F ?_|refine X.G ?_|refine X.H ?_|refine X.I ?_|fail)
      refine ⟨_, ret1 rfl (by rfl), ?_⟩
      exact ⟨⟨_, hap.own.lower (by omega), by rw [hput]; exact hA6⟩, hbl03.trans (Below.mono hap.bel (by omega))⟩
end Go.Proofs
/- The reference's cuts: products of forests, cuts of trees. -/
set_option maxRecDepth 8000
namespace Go.Rk
open Go.Fw Go.Proofs
def atT (x : List Int) : For → Nat
  | [] => 0
  | y :: r => if cmpT x y < 0 then 0 else atT x r + 1
theorem atT_le (x : List Int) (ss : For) : atT x ss ≤ ss.length := by
  induction ss with
  | nil => simp [atT]
  | cons s ss ih => unfold atT; split <;> simp <;> omega
theorem atT_drop {x : List Int} {ss : For} {i : Nat} (h : i < ss.length) : i + atT x (ss.drop i) = if cmpT x ss[i] < 0 then i else (i + 1) + atT x (ss.drop (i + 1)) := by
  rw [List.drop_eq_getElem_cons h, atT]
  split <;> omega
theorem insT_at (x : List Int) : ∀ ss, insT x ss = ss.take (atT x ss) ++ ([x] ++ ss.drop (atT x ss))
  | [] => rfl
  | y :: r => by
    unfold insT atT
    split
    · rfl
    · rw [insT_at x r]; rfl
theorem insT_perm (x : List Int) : ∀ ss, (insT x ss).Perm (x :: ss)
  | [] => List.Perm.refl _
  | y :: r => by
    unfold insT
    split
    · exact List.Perm.refl _
    · exact ((insT_perm x r).cons y).trans (List.Perm.swap x y r)
theorem sortTS_succ {f : For} {i : Nat} (h : i < f.length) : sortTS (f.take (i + 1)) = insT f[i] (sortTS (f.take i)) := by
  unfold sortTS; rw [List.take_succ_eq_append_getElem h, List.foldl_append]; rfl
theorem sortTS_go (f : For) : ∀ out : For, (f.foldl (fun out x => insT x out) out).Perm (f ++ out) := by
  induction f with
  | nil => intro out; exact List.Perm.refl _
  | cons x f ih =>
    intro out
    exact (ih (insT x out)).trans (((insT_perm x out).append_left f).trans List.perm_middle)
theorem sortTS_perm (f : For) : (sortTS f).Perm f := by have := sortTS_go f []; rw [List.append_nil] at this; exact this
theorem sortTS_len (f : For) : (sortTS f).length = f.length := (sortTS_perm f).length_eq
theorem sortTS_flat (f : For) : (sortTS f).flatten.length = f.flatten.length := flatten_length_perm (sortTS_perm f)
theorem insL_perm (part : List Int) (ss : For) : (insL part ss).Perm (part :: ss) := by
  unfold insL
  refine List.perm_middle.trans ?_
  show (part :: (ss.take (insAt part ss) ++ ss.drop (insAt part ss))).Perm _
  rw [List.take_append_drop]
theorem sortGo_perm (g : List Int → List Int) : ∀ (bs ss : For), (sortGo g ss bs).Perm (ss ++ bs.map g)
  | [], ss => by rw [sortGo, List.map_nil, List.append_nil]
  | b :: bs, ss => by
    rw [sortGo, List.map_cons]
    exact (sortGo_perm g bs (insL (g b) ss)).trans (((insL_perm (g b) ss).append_right _).trans (List.perm_middle.symm))
theorem flat_len_congr {g : List Int → List Int} : ∀ (bs : For), (∀ b ∈ bs, (g b).length = b.length) → (bs.map g).flatten.length = bs.flatten.length
  | [], _ => rfl
  | b :: bs, h => by
    rw [List.map_cons, List.flatten_cons, List.flatten_cons, List.length_append, List.length_append, h b (by simp), flat_len_congr bs fun c hc => h c (by simp [hc])]
theorem canonL_ok (f : Nat) : ∀ {t : List Int}, Lv t → t.length ≤ f → t.length ≤ 8 → Lv (canonL f t) ∧ (canonL f t).length = t.length := by
  induction f with
  | zero => intro t ht hn; exact absurd ht.pos (by omega)
  | succ f ih =>
  intro t ht hn h8
  have hbr := branches_ok ht
  have hcnt := branchesL_count ht
  have hp := sortGo_perm (canonL f) (branchesL t) []
  rw [List.nil_append] at hp
  have hb : ∀ b ∈ branchesL t, Lv (canonL f b) ∧ (canonL f b).length = b.length := fun b hb => by have := hbr.2 b hb; exact ih this.1 (by omega) (by omega)
  have hS : ∀ s ∈ sortGo (canonL f) [] (branchesL t), Lv s ∧ s.length ≤ 8 := fun s hs => by
    obtain ⟨b, hbm, rfl⟩ := List.mem_map.1 (hp.mem_iff.1 hs)
    have h1 := hb b hbm
    have h2 := hbr.2 b hbm
    exact ⟨h1.1, by omega⟩
  have hinc : (sortGo (canonL f) [] (branchesL t)).flatten.map incW = (sortGo (canonL f) [] (branchesL t)).flatten.map (· + 1) := List.map_congr_left fun v hv => by
    obtain ⟨s, hs, hvs⟩ := List.mem_flatten.1 hv
    have h1 := (hS s hs).1.bdm v hvs
    have h2 := (hS s hs).2
    exact wrap_in (by unfold InI; omega)
  have he : canonL (f + 1) t = rootL (sortGo (canonL f) [] (branchesL t)) := by rw [canonL, hinc]; rfl
  rw [he]
  refine ⟨rootL_lv fun s hs => (hS s hs).1, ?_⟩
  rw [rootL_length, flatten_length_perm hp, flat_len_congr _ fun b hbm => (hb b hbm).2]
  exact hcnt
/-- A counted cut of n nodes. -/
structure POk (n : Nat) (s : SplD) : Prop where
  c : ∀ b ∈ s.1, Lv b
  t : ∀ b ∈ s.2.1, Lv b
  n : s.1.flatten.length + s.2.1.flatten.length = n
  pos : 1 ≤ s.2.2
def tot : List SplD → Int
  | [] => 0
  | s :: l => s.2.2 + tot l
theorem tot_append : ∀ a b, tot (a ++ b) = tot a + tot b
  | [], b => by simp [tot]
  | s :: a, b => by rw [List.cons_append, tot, tot, tot_append a b, Int.add_assoc]
theorem tot_put : ∀ (l : List SplD) (c : SplD), tot (putS l c) = tot l + c.2.2
  | [], c => by simp [putS, tot]
  | x :: r, c => by
    rw [putS_cons]
    split
    · simp only [tot]; omega
    · split
      · simp only [tot]; omega
      · simp only [tot, tot_put r c]; omega
theorem put_ok {n : Nat} : ∀ {l : List SplD} {c : SplD}, (∀ s ∈ l, POk n s) → POk n c → ∀ s ∈ putS l c, POk n s
  | [], c, _, hc, s, hs => by simp [putS] at hs; subst hs; exact hc
  | x :: r, c, hl, hc, s, hs => by
    have hx := hl x (by simp)
    rw [putS_cons] at hs
    split at hs
    · rcases List.mem_cons.1 hs with rfl | hs
      · exact hc
      · exact hl s hs
    · split at hs
      · rcases List.mem_cons.1 hs with rfl | hs
        · exact ⟨hx.c, hx.t, hx.n, by have := hx.pos; have := hc.pos; dsimp only; omega⟩
        · exact hl s (by simp [hs])
      · rcases List.mem_cons.1 hs with rfl | hs
        · exact hx
        · exact put_ok (fun y hy => hl y (by simp [hy])) hc s hs
theorem tot_len {n : Nat} : ∀ {l : List SplD}, (∀ s ∈ l, POk n s) → (l.length : Int) ≤ tot l ∧ ∀ s ∈ l, s.2.2 ≤ tot l
  | [], _ => ⟨by simp [tot], fun s hs => by simp at hs⟩
  | x :: r, h => by
    have h1 := (h x (by simp)).pos
    obtain ⟨h2, h3⟩ := tot_len (l := r) fun s hs => h s (by simp [hs])
    refine ⟨by rw [tot, List.length_cons]; omega, fun s hs => ?_⟩
    rw [tot]
    rcases List.mem_cons.1 hs with rfl | hs
    · omega
    · have := h3 s hs; omega
def timesD (x y : SplD) : SplD := (timesF x.1 y.1, timesF x.2.1 y.2.1, x.2.2 * y.2.2)
theorem timesF_ok {f g : For} (hf : ∀ b ∈ f, Lv b) (hg : ∀ b ∈ g, Lv b) : (∀ b ∈ timesF f g, Lv b) ∧ (timesF f g).flatten.length = f.flatten.length + g.flatten.length := by
  refine ⟨fun b hb => ?_, ?_⟩
  · rcases List.mem_append.1 ((sortTS_perm (f ++ g)).mem_iff.1 hb) with h | h
    · exact hf b h
    · exact hg b h
  · unfold timesF; rw [sortTS_flat, List.flatten_append, List.length_append]
theorem timesD_ok {m n : Nat} {x y : SplD} (hx : POk m x) (hy : POk n y) : POk (m + n) (timesD x y) := by
  have h1 := timesF_ok hx.c hy.c
  have h2 := timesF_ok hx.t hy.t
  refine ⟨h1.1, h2.1, ?_, ?_⟩
  · have := hx.n; have := hy.n; show (timesF x.1 y.1).flatten.length + (timesF x.2.1 y.2.1).flatten.length = _; omega
  · have := Int.mul_le_mul hx.pos hy.pos (by omega) (by have := hx.pos; omega)
    show 1 ≤ x.2.2 * y.2.2; omega
theorem timesRow_eq (x : SplD) (b out : List SplD) : timesRow x b out = b.foldl (fun out y => putS out (timesD x y)) out := rfl
theorem timesRow_succ {x : SplD} {b out : List SplD} {j : Nat} (h : j < b.length) : timesRow x (b.take (j + 1)) out = putS (timesRow x (b.take j) out) (timesD x b[j]) := by
  rw [timesRow_eq, timesRow_eq, List.take_succ_eq_append_getElem h, List.foldl_append]; rfl
theorem timesS_succ {a b : List SplD} {i : Nat} (h : i < a.length) : timesS (a.take (i + 1)) b = timesRow a[i] b (timesS (a.take i) b) := by
  unfold timesS; rw [List.take_succ_eq_append_getElem h, List.foldl_append]; rfl
theorem timesRow_ok {m n : Nat} {x : SplD} (hx : POk m x) : ∀ (b : List SplD) (out : List SplD), (∀ s ∈ b, POk n s) → (∀ s ∈ out, POk (m + n) s) → (∀ s ∈ timesRow x b out, POk (m + n) s) ∧ tot (timesRow x b out) = tot out + x.2.2 * tot b
  | [], out, _, ho => ⟨ho, by simp [timesRow, tot]⟩
  | y :: b, out, hb, ho => by
    have h1 := put_ok ho (timesD_ok hx (hb y (by simp)))
    have h2 := timesRow_ok hx b (putS out (timesD x y)) (fun s hs => hb s (by simp [hs])) h1
    refine ⟨h2.1, ?_⟩
    show tot (timesRow x b (putS out (timesD x y))) = _
    rw [h2.2, tot_put, tot, Int.mul_add]
    show tot out + x.2.2 * y.2.2 + _ = _
    omega
theorem timesS_go {m n : Nat} {b : List SplD} (hb : ∀ s ∈ b, POk n s) : ∀ (a out : List SplD), (∀ s ∈ a, POk m s) → (∀ s ∈ out, POk (m + n) s) → (∀ s ∈ a.foldl (fun out x => timesRow x b out) out, POk (m + n) s) ∧ tot (a.foldl (fun out x => timesRow x b out) out) = tot out + tot a * tot b
  | [], out, _, ho => ⟨ho, by simp [tot]⟩
  | x :: a, out, ha, ho => by
    have h1 := timesRow_ok (ha x (by simp)) b out hb ho
    have h2 := timesS_go hb a (timesRow x b out) (fun s hs => ha s (by simp [hs])) h1.1
    refine ⟨h2.1, ?_⟩
    show tot (a.foldl _ (timesRow x b out)) = _
    rw [h2.2, h1.2, tot, Int.add_mul]
    omega
theorem timesS_ok {m n : Nat} {a b : List SplD} (ha : ∀ s ∈ a, POk m s) (hb : ∀ s ∈ b, POk n s) : (∀ s ∈ timesS a b, POk (m + n) s) ∧ tot (timesS a b) = tot a * tot b := by
  have := timesS_go hb a [] ha (fun s hs => by simp at hs)
  exact ⟨this.1, by unfold timesS; rw [this.2]; simp [tot]⟩
def forestSt (f : Nat) (bs : For) (i : Nat) : List SplD := (bs.take i).foldl (fun out b => timesS out (treeS f b)) [([], [], 1)]
theorem forestSt_succ {f : Nat} {bs : For} {i : Nat} (h : i < bs.length) : forestSt f bs (i + 1) = timesS (forestSt f bs i) (treeS f bs[i]) := by
  unfold forestSt; rw [List.take_succ_eq_append_getElem h, List.foldl_append]; rfl
theorem forestSt_ok {f : Nat} {bs : For} (h : ∀ b ∈ bs, (∀ s ∈ treeS f b, POk b.length s) ∧ 0 ≤ tot (treeS f b) ∧ tot (treeS f b) ≤ 2 ^ b.length) : ∀ i, i ≤ bs.length → (∀ s ∈ forestSt f bs i, POk (bs.take i).flatten.length s) ∧ 0 ≤ tot (forestSt f bs i) ∧ tot (forestSt f bs i) ≤ 2 ^ (bs.take i).flatten.length
  | 0, _ => ⟨fun s hs => by
      simp [forestSt] at hs
      subst hs
      exact ⟨fun b hb => by simp at hb, fun b hb => by simp at hb, by simp, by simp⟩, by simp [forestSt, tot], by simp [forestSt, tot]⟩
  | i + 1, hi => by
    have hl : i < bs.length := by omega
    obtain ⟨h1, h2, h3⟩ := forestSt_ok h i (by omega)
    obtain ⟨h4, h5, h6⟩ := h _ (List.getElem_mem hl)
    have h7 := timesS_ok h1 h4
    rw [forestSt_succ hl, flat_take_len hl]
    refine ⟨h7.1, by rw [h7.2]; exact Int.mul_nonneg h2 h5, ?_⟩
    rw [h7.2, Int.pow_add]
    exact Int.mul_le_mul h3 h6 h5 (by have := Int.le_trans h2 h3; exact this)
theorem branchesS_ok {t : List Int} (ht : Lv t) (h8 : t.length ≤ 8) : (∀ b ∈ branchesS t, Lv b ∧ b.length < t.length) ∧ (branchesS t).flatten.length + 1 = t.length := by
  have hc := canonL_ok 8 ht h8 h8
  have hbr := branches_ok hc.1
  have hcnt := branchesL_count hc.1
  refine ⟨fun b hb => ?_, ?_⟩
  · have := hbr.2 b ((sortTS_perm _).mem_iff.1 hb)
    exact ⟨this.1, by omega⟩
  · unfold branchesS; rw [sortTS_flat]; omega
def putAll (l : List SplD) (out : List SplD) : List SplD := l.foldl (fun out x => putS out (rootS x)) out
theorem putAll_succ {l out : List SplD} {i : Nat} (h : i < l.length) : putAll (l.take (i + 1)) out = putS (putAll (l.take i) out) (rootS l[i]) := by
  unfold putAll; rw [List.take_succ_eq_append_getElem h, List.foldl_append]; rfl
theorem rootS_ok {n : Nat} (hn : n ≤ 7) {s : SplD} (h : POk n s) : POk (n + 1) (rootS s) := by
  have hr := rootL_lv h.t
  have hl := rootL_length s.2.1
  have h1 := h.n
  have hc := canonL_ok 8 hr (by omega) (by omega)
  refine ⟨h.c, fun b hb => ?_, ?_, h.pos⟩
  · simp [rootS] at hb; subst hb; exact hc.1
  · simp only [rootS, List.flatten_cons, List.flatten_nil, List.append_nil]; omega
theorem putAll_ok {n : Nat} (hn : n ≤ 7) : ∀ (l out : List SplD), (∀ s ∈ l, POk n s) → (∀ s ∈ out, POk (n + 1) s) → (∀ s ∈ putAll l out, POk (n + 1) s) ∧ tot (putAll l out) = tot out + tot l
  | [], out, _, ho => ⟨ho, by simp [putAll, tot]⟩
  | x :: l, out, hl, ho => by
    have h1 := put_ok ho (rootS_ok hn (hl x (by simp)))
    have h2 := putAll_ok hn l (putS out (rootS x)) (fun s hs => hl s (by simp [hs])) h1
    refine ⟨h2.1, ?_⟩
    show tot (putAll l (putS out (rootS x))) = _
    rw [h2.2, tot_put, tot]
    show tot out + x.2.2 + tot l = _
    omega
theorem treeS_succ (f : Nat) (t : List Int) : treeS (f + 1) t = putAll (forestSt f (branchesS t) (branchesS t).length) [([t], [], 1)] := by
  unfold forestSt; rw [List.take_length]; rfl
theorem treeS_ok (f : Nat) : ∀ {t : List Int}, Lv t → t.length ≤ f → t.length ≤ 8 → (∀ s ∈ treeS f t, POk t.length s) ∧ 0 ≤ tot (treeS f t) ∧ tot (treeS f t) ≤ 2 ^ t.length := by
  induction f with
  | zero => intro t ht hn; exact absurd ht.pos (by omega)
  | succ f ih =>
  intro t ht hn h8
  obtain ⟨hbr, hcnt⟩ := branchesS_ok ht h8
  have hfo := forestSt_ok (f := f) (bs := branchesS t) (fun b hb => by have := hbr b hb; exact ih this.1 (by omega) (by omega)) _ (Nat.le_refl _)
  rw [List.take_length] at hfo
  have h0 : ∀ s ∈ [(([t], [], 1) : SplD)], POk ((branchesS t).flatten.length + 1) s := fun s hs => by
    simp at hs; subst hs
    exact ⟨fun b hb => by simp at hb; subst hb; exact ht, fun b hb => by simp at hb, by show [t].flatten.length + ([] : For).flatten.length = _; rw [show [t].flatten = t from by simp, List.flatten_nil, List.length_nil]; omega, by simp⟩
  have hp := putAll_ok (by omega) _ _ hfo.1 h0
  rw [treeS_succ]
  rw [hcnt] at hp
  have h1 : tot [(([t], [], 1) : SplD)] = 1 := rfl
  have h2 : (2 : Int) ^ t.length = 2 ^ (branchesS t).flatten.length * 2 := by rw [← hcnt, Int.pow_succ]
  have h3 : (1 : Int) ≤ 2 ^ (branchesS t).flatten.length := by
    have := Nat.one_le_two_pow (n := (branchesS t).flatten.length)
    have h4 : ((2 ^ (branchesS t).flatten.length : Nat) : Int) = 2 ^ (branchesS t).flatten.length := by simp
    omega
  refine ⟨hp.1, by rw [hp.2, h1]; omega, ?_⟩
  rw [hp.2, h1, h2]
  have := hfo.2.2
  omega
theorem pow_256 {n : Nat} (h : n ≤ 8) : (2 : Int) ^ n ≤ 256 := by
  have h1 : 2 ^ n ≤ 2 ^ 8 := Nat.pow_le_pow_right (by omega) h
  have h2 : ((2 ^ n : Nat) : Int) = 2 ^ n := by simp
  omega
end Go.Rk
/- The reference's cuts of trees, walked. -/
set_option maxRecDepth 8000
namespace Go.Fw
open Go Go.RowKit
/-- A forest, its values told. -/
def RooV (e e2 lo : Nat) (w : World) (v : Value) (vs : List Value) (xss : List (List Int)) : Prop := Own lo e w v vs ∧ vs.length = xss.length ∧ ∀ (i : Nat) u xs, vs[i]? = some u → xss[i]? = some xs → ∃ lo', Own lo' e2 w u (Ints xs)
section
variable {e e2 lo : Nat} {w w' : World} {v : Value} {vs : List Value} {xss : List (List Int)}
theorem RooV.roo (h : RooV e e2 lo w v vs xss) : Roo e e2 w v xss := ⟨lo, vs, h.1, h.2.1, h.2.2⟩
theorem RooV.below (h : RooV e e2 lo w v vs xss) (hb : Below w.heap.size w w') : RooV e e2 lo w' v vs xss := ⟨h.1.below hb (Nat.le_refl _), h.2.1, fun i u xs hu hx => by obtain ⟨l, h1⟩ := h.2.2 i u xs hu hx; exact ⟨l, h1.below hb (Nat.le_refl _)⟩⟩
theorem RooV.rd (h : RooV e e2 lo w v vs xss) : ISS 0 w.heap.size w v xss := h.roo.rd
theorem RooV.eq (h : RooV e e2 lo w v vs xss) : SL (fun _ _ _ u x => u = x) 0 w.heap.size w v vs := h.1.toSL rfl (Nat.zero_le _) (fun k hk => (h.1.block k hk).2) (Nat.le_refl _) fun i u x hu hx => by rw [hu] at hx; simpa using hx
theorem RooV.one (h : RooV e e2 lo w v vs xss) : ∀ u ∈ vs, u.oneCell' = true := fun u hu => by
  obtain ⟨i, hi, rfl⟩ := List.getElem_of_mem hu
  obtain ⟨l, h1⟩ := h.2.2 i _ _ (List.getElem?_eq_getElem hi) (List.getElem?_eq_getElem (by rw [← h.2.1]; exact hi))
  obtain ⟨_, _, hsh, _⟩ := h1.shape
  rw [hsh]; rfl
end
end Go.Fw
namespace Go.Proofs
open Go Go.Fw Go.RowKit Go.Rk
theorem l01Own2_any {lo hi : Nat} {w : World} {v : Value} {xss : For} (h : ISS lo hi w v xss) (hb : ∀ b ∈ xss, b.length ≤ 1000000) (hn : xss.length ≤ 1000000) :
    Does Tryz.prog 160 [v] w fun r w' => ∃ vs, RooV 22 2 w.heap.size w' r vs xss ∧ Below w.heap.size w w' := by
  obtain ⟨a, c, hv⟩ := h.shape
  subst hv
  have hhl := h.hi_le
  refine Does.enter Tryz.func160 Tryz.ntmps160 rfl (by rfl) ?_
  repeat' (first|refine X.O ?_|refine X.A ?_|refine X.B ?_|refine X.C ?_|refine X.D ?_|refine X.E ?_|refine X.F ?_|refine X.G ?_|refine X.H ?_|refine X.I ?_|fail)
  refine WL.step (o_lit (us := []) (by rfl) (by rfl) rfl (by decide) one0 ?_)
  intro v1 w1 hown1 hbl1 hz1 _
  repeat' (first|refine X.O ?_|refine X.A ?_|refine X.B ?_|refine X.C ?_|refine X.D ?_|refine X.E ?_|refine X.F ?_|refine X.G ?_|refine X.H ?_|refine X.I ?_|fail)
  refine WP.loop (fun (s : Nat × Value) => [(0, .slice a xss.length c), (3, s.2), (4, .int .i64 (s.1 : Nat))])
    (fun s w2 => s.1 ≤ xss.length ∧ (∃ vs, RooV 22 2 w.heap.size w2 s.2 vs (xss.take s.1)) ∧ Below w.heap.size w w2)
    (fun s => xss.length - s.1) (0, v1) ⟨rfl, rfl, rfl, trivial⟩ ⟨by dsimp only; omega, ⟨[], hown1, rfl, fun i u xs hu => by simp at hu⟩, hbl1⟩ ?_
  rintro ⟨i, vo⟩ w2 ⟨hi1, ⟨vs, oA⟩, hbl2⟩
  dsimp only at hi1 oA ⊢
  have hz2 := hbl2.size
  have hvl : vs.length = i := by rw [oA.2.1, List.length_take]; omega
  repeat' (first|refine X.O ?_|refine X.A ?_|refine X.B ?_|refine X.C ?_|refine X.D ?_|refine X.E ?_|refine X.F ?_|refine X.G ?_|refine X.H ?_|refine X.I ?_|fail)
  first|refine X.J (fun _ => ?_) (fun _ => ?_)|refine X.L (fun _ => ?_) (fun _ => ?_)|refine X.M (fun _ => ?_) (fun _ => ?_)|refine X.R (fun _ => ?_) (fun _ => ?_)|fail
  · rename_i hlt
    have hli : i < xss.length := by omega
    repeat' (first|refine X.O ?_|refine X.A ?_|refine X.B ?_|refine X.C ?_|refine X.D ?_|refine X.E ?_|refine X.F ?_|refine X.G ?_|refine X.H ?_|refine X.I ?_|fail)
    refine WL.ixload (j := i) (h.below IS.stable hbl2 hhl) (List.getElem?_eq_getElem hli) ?_
    intro p1 u hu
    repeat' (first|refine X.O ?_|refine X.A ?_|refine X.B ?_|refine X.C ?_|refine X.D ?_|refine X.E ?_|refine X.F ?_|refine X.G ?_|refine X.H ?_|refine X.I ?_|fail)
    refine WL.call (l01Own_grow hu (hb _ (List.getElem_mem hli))) ?_
    intro v3 w3 hN3
    have hz3 := hN3.2.size
    have oA3 := oA.below hN3.2
    obtain ⟨_, _, hv3, _⟩ := hN3.1.shape
    refine o_append1 (u := v3) (fun _ => by rfl) (by rfl) oA3.1 (by rw [hv3]; rfl) (by simp [hvl, maxLen]; omega) (by simp [hvl]; omega) (by omega) ?_
    intro p2 v4 w4 hown4 hbl4 hf4 hz4 _
    have hk : ∀ lo' x xs, Own lo' 2 w3 x (Ints xs) → Own lo' 2 w4 x (Ints xs) := fun lo' x xs hx => hx.keep fun k hk => hf4 k (hx.block k hk).2 fun e => oA3.1.ne_block hx (by decide) e hk
    repeat' (first|refine X.O ?_|refine X.A ?_|refine X.B ?_|refine X.C ?_|refine X.D ?_|refine X.E ?_|refine X.F ?_|refine X.G ?_|refine X.H ?_|refine X.I ?_|fail)
    refine ⟨(i + 1, v4), ⟨rfl, rfl, (by first|rfl|exact X.T (by omega)), trivial⟩, ⟨by dsimp only; omega, ⟨vs ++ [v3], hown4, by dsimp only; rw [List.length_append, hvl, List.length_take]; simp; omega, fun k x xs hx hxs => ?_⟩, (hbl2.trans (Below.mono hN3.2 (by omega))).trans hbl4⟩, by dsimp only; omega⟩
    dsimp only at hxs
    rw [List.take_succ_eq_append_getElem hli, List.getElem?_append] at hxs
    rw [List.getElem?_append, hvl] at hx
    have htk : (xss.take i).length = i := by rw [List.length_take]; omega
    rw [htk] at hxs
    split at hx
    · rename_i h1; rw [if_pos h1] at hxs; obtain ⟨l, h2⟩ := oA3.2.2 k x xs hx hxs; exact ⟨l, hk _ _ _ h2⟩
    · rename_i h1
      rw [if_neg h1] at hxs
      have h0 : k - i = 0 := by have := (List.getElem?_eq_some_iff.1 hx).1; simp only [List.length_singleton] at this; omega
      rw [h0] at hx hxs
      simp at hx hxs
      subst hx hxs
      exact ⟨_, hk _ _ _ hN3.1⟩
  · rename_i hge
    have : i = xss.length := by omega
    subst this
    rw [List.take_length] at oA
    repeat' (first|refine X.O ?_|refine X.A ?_|refine X.B ?_|refine X.C ?_|refine X.D ?_|refine X.E ?_|refine X.F ?_|refine X.G ?_|refine X.H ?_|refine X.I ?_|fail)
    refine ⟨_, ret1 rfl (by rfl), ?_⟩
    exact ⟨vs, oA, hbl2⟩
set_option maxHeartbeats 1000000 in
theorem l03Sort_any {lo hi : Nat} {w : World} {v : Value} {f : For} (h : ISS lo hi w v f) (hb : ∀ b ∈ f, b.length ≤ 1000000) (hn : f.length ≤ 1000) :
    Does Tryz.prog 191 [v] w fun r w' => Roo 22 2 w' r (sortTS f) ∧ Below w.heap.size w w' := by
  obtain ⟨a, c, hv⟩ := h.shape
  subst hv
  have hhl := h.hi_le
  refine Does.enter Tryz.func191 Tryz.ntmps191 rfl (by rfl) ?_
  repeat' (first|refine X.O ?_|refine X.A ?_|refine X.B ?_|refine X.C ?_|refine X.D ?_|refine X.E ?_|refine X.F ?_|refine X.G ?_|refine X.H ?_|refine X.I ?_|fail)
  refine WL.step (o_lit (us := []) (by rfl) (by rfl) rfl (by decide) one0 ?_)
  intro v1 w1 hown1 hbl1 hz1 _
  repeat' (first|refine X.O ?_|refine X.A ?_|refine X.B ?_|refine X.C ?_|refine X.D ?_|refine X.E ?_|refine X.F ?_|refine X.G ?_|refine X.H ?_|refine X.I ?_|fail)
  refine WP.loop (fun (s : Nat × Value) => [(0, .slice a f.length c), (3, s.2), (4, .int .i64 (s.1 : Nat))])
    (fun s w2 => s.1 ≤ f.length ∧ (∃ vs, RooV 22 2 w.heap.size w2 s.2 vs (sortTS (f.take s.1))) ∧ Below w.heap.size w w2)
    (fun s => f.length - s.1) (0, v1) ⟨rfl, rfl, rfl, trivial⟩ ⟨by dsimp only; omega, ⟨[], hown1, rfl, fun i u xs hu => by simp at hu⟩, hbl1⟩ ?_
  rintro ⟨i, vo⟩ w2 ⟨hi1, ⟨vs, oA⟩, hbl2⟩
  dsimp only at hi1 oA ⊢
  have hz2 := hbl2.size
  have hsl : (sortTS (f.take i)).length = i := by rw [sortTS_len, List.length_take]; omega
  repeat' (first|refine X.O ?_|refine X.A ?_|refine X.B ?_|refine X.C ?_|refine X.D ?_|refine X.E ?_|refine X.F ?_|refine X.G ?_|refine X.H ?_|refine X.I ?_|fail)
  first|refine X.J (fun _ => ?_) (fun _ => ?_)|refine X.L (fun _ => ?_) (fun _ => ?_)|refine X.M (fun _ => ?_) (fun _ => ?_)|refine X.R (fun _ => ?_) (fun _ => ?_)|fail
  · rename_i hlt
    have hli : i < f.length := by omega
    have hbi := hb _ (List.getElem_mem hli)
    have hsu := sortTS_succ hli
    have hvl : vs.length = i := by rw [oA.2.1, hsl]
    obtain ⟨ss, hss⟩ : ∃ ss, sortTS (f.take i) = ss := ⟨_, rfl⟩
    rw [hss] at oA hsl hsu
    obtain ⟨x, hxE⟩ : ∃ x, f[i] = x := ⟨_, rfl⟩
    rw [hxE] at hsu hbi
    rw [insT_at] at hsu
    have hatl := atT_le x ss
    obtain ⟨ao, co, hvo, hcap, _⟩ := oA.1.shape
    rw [hvl] at hvo hcap
    subst hvo
    have hx2 := h.below IS.stable hbl2 hhl
    repeat' (first|refine X.O ?_|refine X.A ?_|refine X.B ?_|refine X.C ?_|refine X.D ?_|refine X.E ?_|refine X.F ?_|refine X.G ?_|refine X.H ?_|refine X.I ?_|fail)
    refine WP.midB (fun l' wz => Agree l' [(0, .slice a f.length c), (3, .slice ao i co), (4, .int .i64 (i : Nat)), (5, .int .i64 (atT x ss : Nat))] ∧ Still w2 wz) ?_ ?_
    · refine WP.loop (fun (m : Nat) => [(0, .slice a f.length c), (3, .slice ao i co), (4, .int .i64 (i : Nat)), (5, .int .i64 (m : Nat))])
        (fun m w3 => m ≤ ss.length ∧ atT x ss = m + atT x (ss.drop m) ∧ Still w2 w3) (fun m => ss.length - m) 0 ⟨rfl, rfl, rfl, rfl, trivial⟩ ⟨by omega, by simp, Still.refl _⟩ ?_
      rintro m w3 ⟨hm, hin, hs3⟩
      have hz3 := hs3.size
      repeat' (first|refine X.O ?_|refine X.A ?_|refine X.B ?_|refine X.C ?_|refine X.D ?_|refine X.E ?_|refine X.F ?_|refine X.G ?_|refine X.H ?_|refine X.I ?_|fail)
      by_cases hmlt : m < ss.length
      · rw [atT_drop hmlt] at hin
        refine WP.drawn (fun w' => w'.heap = w3.heap) [(0, true), (1, true), (2, true), (3, true), (4, true), (5, true), (6, true), (7, true), (8, true), (9, true), (10, true), (11, true), (12, true), (13, false), (14, true), (15, true)] (by kernel_rfl) mixed ?_
        intro w4 hs4
        have hw4 : w4.heap = w3.heap := hs4.heap
        have hs24 := hs3.trans hs4
        refine WS.q rfl (q_s (by rfl)) hw4 ?_
        refine WS.q rfl (q_s (by rfl)) hw4 ?_
        refine WS.q rfl (q_len (by rfl)) hw4 ?_
        refine WS.q rfl (q_s (by rfl)) hw4 ?_
        rw [decide_eq_true (show (m : Int) < (i : Nat) by omega)]
        repeat' (first|refine X.U rfl ?_|refine X.V rfl ?_|refine X.W rfl ?_|refine X.Y rfl ?_|refine X.Z rfl ?_|refine WS.nil ?_|fail)
        refine WS.ixload (j := i) rfl rfl (hx2.still IS.stable hs24) (List.getElem?_eq_getElem hli) (fun w' hw' => same_heap (hw'.trans hw4.symm)) hw4 ?_
        intro p1 u hu
        rw [hxE] at hu
        repeat' (first|refine X.U rfl ?_|refine X.V rfl ?_|refine X.W rfl ?_|refine X.Y rfl ?_|refine X.Z rfl ?_|refine WS.nil ?_|fail)
        refine WS.ixload (j := m) rfl rfl (oA.rd.still IS.stable hs24) (List.getElem?_eq_getElem hmlt) (fun w' hw' => same_heap (hw'.trans hw4.symm)) hw4 ?_
        intro p2 u2 hu2
        refine WS.call rfl (l03Before_any hu hu2) ?_
        rintro _ w5 ⟨rfl, hs5⟩
        have hw5 : w5.heap = w3.heap := hs5.heap.trans hw4
        refine ⟨hw5, ?_⟩
        repeat' (first|refine X.U rfl ?_|refine X.V rfl ?_|refine X.W rfl ?_|refine X.Y rfl ?_|refine X.Z rfl ?_|refine WS.nil ?_|fail)
        have hs25 := hs24.trans hs5
        repeat' (first|refine X.O ?_|refine X.A ?_|refine X.B ?_|refine X.C ?_|refine X.D ?_|refine X.E ?_|refine X.F ?_|refine X.G ?_|refine X.H ?_|refine X.I ?_|fail)
        first|refine X.J (fun _ => ?_) (fun _ => ?_)|refine X.L (fun _ => ?_) (fun _ => ?_)|refine X.M (fun _ => ?_) (fun _ => ?_)|refine X.R (fun _ => ?_) (fun _ => ?_)|fail
        · rename_i hnb
          rw [if_neg hnb] at hin
          repeat' (first|refine X.O ?_|refine X.A ?_|refine X.B ?_|refine X.C ?_|refine X.D ?_|refine X.E ?_|refine X.F ?_|refine X.G ?_|refine X.H ?_|refine X.I ?_|fail)
          exact ⟨m + 1, ⟨rfl, rfl, rfl, (by first|rfl|exact X.T (by omega)), trivial⟩, ⟨by omega, hin, hs25⟩, by omega⟩
        · rename_i hnb
          rw [if_pos hnb] at hin
          subst hin
          repeat' (first|refine X.O ?_|refine X.A ?_|refine X.B ?_|refine X.C ?_|refine X.D ?_|refine X.E ?_|refine X.F ?_|refine X.G ?_|refine X.H ?_|refine X.I ?_|fail)
          exact ⟨⟨rfl, rfl, rfl, rfl, trivial⟩, hs25⟩
      · rw [List.drop_eq_nil_of_le (by omega)] at hin
        have hme : atT x ss = m := hin
        refine WP.drawn (fun w' => w'.heap = w3.heap) [(0, true), (1, true), (2, true), (3, true), (4, true), (5, true), (6, true), (7, true), (8, true), (9, true), (10, true), (11, true), (12, true), (13, true), (14, true), (15, true)] (by kernel_rfl) mixed ?_
        intro w4 hs4
        have hw4 : w4.heap = w3.heap := hs4.heap
        refine WS.q rfl (q_s (by rfl)) hw4 ?_
        refine WS.q rfl (q_s (by rfl)) hw4 ?_
        refine WS.q rfl (q_len (by rfl)) hw4 ?_
        refine WS.q rfl (q_s (by rfl)) hw4 ?_
        rw [decide_eq_false (show ¬ (m : Int) < (i : Nat) by omega)]
        repeat' (first|refine X.Z rfl ?_|refine X.U rfl ?_|refine WS.nil ?_|fail)
        subst hme
        repeat' (first|refine X.O ?_|refine X.A ?_|refine X.B ?_|refine X.C ?_|refine X.D ?_|refine X.E ?_|refine X.F ?_|refine X.G ?_|refine X.H ?_|refine X.I ?_|fail)
        exact ⟨⟨rfl, rfl, rfl, rfl, trivial⟩, hs3.trans hs4⟩
    · rintro l' w3 ⟨hag, hs3⟩
      refine WP.frame _ hag ?_
      clear hag
      have hz3 := hs3.size
      have oA3 := oA.below (hs3.below _)
      obtain ⟨m, hme⟩ : ∃ m, atT x ss = m := ⟨_, rfl⟩
      rw [hme] at hatl hsu ⊢
      repeat' (first|refine X.O ?_|refine X.A ?_|refine X.B ?_|refine X.C ?_|refine X.D ?_|refine X.E ?_|refine X.F ?_|refine X.G ?_|refine X.H ?_|refine X.I ?_|fail)
      refine WP.drawn (fun w' => Below w3.heap.size w3 w') [(0, true), (1, true), (2, true), (3, true), (6, true), (7, true), (8, true), (4, false), (5, false), (9, false), (10, true)] (by kernel_rfl) mixed ?_
      intro w4 hs4
      have hz4 := hs4.size
      have hS4 : Below w3.heap.size w3 w4 := hs4.below _
      repeat' (first|refine X.U rfl ?_|refine X.V rfl ?_|refine X.W rfl ?_|refine X.Y rfl ?_|refine X.Z rfl ?_|refine WS.nil ?_|fail)
      refine WS.ixload (j := i) rfl rfl ((hx2.still IS.stable hs3).still IS.stable hs4) (List.getElem?_eq_getElem hli) (fun w' hw' => same_below hS4 hw' (by omega)) hS4 ?_
      intro p1 u hu
      rw [hxE] at hu
      repeat' (first|refine X.U rfl ?_|refine X.V rfl ?_|refine X.W rfl ?_|refine X.Y rfl ?_|refine X.Z rfl ?_|refine WS.nil ?_|fail)
      refine WS.q rfl (q_sliceL (i := m) (by rfl) (by rfl) (by omega)) hS4 ?_
      refine WS.call rfl (l01Own_grow hu hbi) ?_
      intro v5 w5 hN5
      have hz5 := hN5.2.size
      have hS5 := hS4.trans (Below.mono hN5.2 (by omega))
      refine ⟨hS5, ?_⟩
      obtain ⟨a5, n5, c5, rfl⟩ : ∃ a n c, v5 = Value.slice a n c := by obtain ⟨a, c, h, _⟩ := hN5.1.shape; exact ⟨_, _, _, h⟩
      refine WS.op rfl (o_lit (us := [.slice a5 n5 c5]) (by rfl) (by rfl) rfl (by decide) (one1 rfl) ?_)
      intro v6 w6 hown6 hbl6 hz6 _
      have hS6 := hS5.trans (Below.mono hbl6 (by omega))
      refine ⟨hS6, ?_⟩
      have oA6 := oA3.below hS6
      refine WS.op rfl (o_append (us := [.slice a5 n5 c5]) (news := vs.drop m) (by rfl) (by rfl) hown6 (SL.src (SL.drop oA6.eq (by omega))) (fun u hu => oA6.one u (List.mem_of_mem_drop hu)) (by simp [maxLen]; omega) (by simp; omega) (by omega) ?_)
      intro v7 w7 hown7 hg7 hbl7 _
      have hz7 := hg7.size
      have hS7 : Below w3.heap.size w3 w7 := hS6.trans (Below.mono hbl7 (by omega))
      refine ⟨hS7, ?_⟩
      repeat' (first|refine X.U rfl ?_|refine X.V rfl ?_|refine X.W rfl ?_|refine X.Y rfl ?_|refine X.Z rfl ?_|refine WS.nil ?_|fail)
      have oA7 := oA3.below hS7
      have hrow5 : Own w4.heap.size 2 w7 (.slice a5 n5 c5) (Ints x) := (hN5.1.below hbl6 (Nat.le_refl _)).keep fun k hk => hbl7.block k (by have := (hN5.1.block k hk).2; omega)
      repeat' (first|refine X.O ?_|refine X.A ?_|refine X.B ?_|refine X.C ?_|refine X.D ?_|refine X.E ?_|refine X.F ?_|refine X.G ?_|refine X.H ?_|refine X.I ?_|fail)
      refine WL.step (o_lit (us := []) (by rfl) (by rfl) rfl (by decide) one0 ?_)
      intro v8 w8 hown8 hbl8 hz8 _
      have oA8 := oA7.below hbl8
      repeat' (first|refine X.O ?_|refine X.A ?_|refine X.B ?_|refine X.C ?_|refine X.D ?_|refine X.E ?_|refine X.F ?_|refine X.G ?_|refine X.H ?_|refine X.I ?_|fail)
      refine WL.step (o_sliceH (i := m) (by rfl) (by rfl) (by omega) ?_)
      refine WL.step (o_append (us := []) (news := vs.take m) (by rfl) (by rfl) hown8 (SL.src (by have := SL.take oA8.eq (i := m) (by omega); exact this)) (fun u hu => oA8.one u (List.mem_of_mem_take hu)) (by simp [maxLen]; omega) (by simp; omega) (by omega) ?_)
      intro v9 w9 hown9 hg9 hbl9 _
      have hz9 := hg9.size
      have hbl79 : Below w7.heap.size w7 w9 := hbl8.trans hbl9
      repeat' (first|refine X.O ?_|refine X.A ?_|refine X.B ?_|refine X.C ?_|refine X.D ?_|refine X.E ?_|refine X.F ?_|refine X.G ?_|refine X.H ?_|refine X.I ?_|fail)
      refine WL.step (o_append (us := [] ++ vs.take m) (news := [.slice a5 n5 c5] ++ vs.drop m) (by rfl) (by rfl) hown9 (hown7.below hbl79 (Nat.le_refl _)).src (fun u hu => by
        rcases List.mem_append.1 hu with hu | hu
        · simp only [List.mem_singleton] at hu; subst hu; rfl
        · exact oA8.one u (List.mem_of_mem_drop hu)) (by simp [maxLen]; omega) (by simp; omega) (by omega) ?_)
      intro v10 w10 hown10 hg10 hbl10 _
      have hz10 := hg10.size
      have hbl7a : Below w7.heap.size w7 w10 := hbl79.trans (Below.mono hbl10 (by omega))
      have oA10 := oA7.below hbl7a
      have hrow10 := hrow5.below hbl7a (Nat.le_refl _)
      repeat' (first|refine X.O ?_|refine X.A ?_|refine X.B ?_|refine X.C ?_|refine X.D ?_|refine X.E ?_|refine X.F ?_|refine X.G ?_|refine X.H ?_|refine X.I ?_|fail)
      refine ⟨(i + 1, v10), ⟨rfl, rfl, (by first|rfl|exact X.T (by omega)), trivial⟩, ⟨by dsimp only; omega, ⟨vs.take m ++ ([.slice a5 n5 c5] ++ vs.drop m), ?_, ?_, fun k y ys hy hys => ?_⟩, (hbl2.trans (hs3.below _)).trans ((Below.mono hS7 (by omega)).trans (Below.mono hbl7a (by omega)))⟩, by dsimp only; omega⟩
      · exact (by simpa using hown10 : Own w7.heap.size 22 w10 v10 (vs.take m ++ ([.slice a5 n5 c5] ++ vs.drop m))).lower (by omega)
      · dsimp only; rw [hsu]; simp [hvl, hsl]
      · dsimp only at hys
        rw [hsu] at hys
        rcases ins_get (by rw [hvl, hsl]) hy hys with ⟨j, h1, h2⟩ | ⟨h1, h2⟩
        · exact oA10.2.2 j y ys h1 h2
        · subst h1 h2; exact ⟨_, hrow10⟩
  · rename_i hge
    have : i = f.length := by omega
    subst this
    rw [List.take_length] at oA
    repeat' (first|refine X.O ?_|refine X.A ?_|refine X.B ?_|refine X.C ?_|refine X.D ?_|refine X.E ?_|refine X.F ?_|refine X.G ?_|refine X.H ?_|refine X.I ?_|fail)
    refine ⟨_, ret1 rfl (by rfl), ?_⟩
    exact ⟨oA.roo, hbl2⟩
theorem l03Times_any {lo hi : Nat} {w : World} {v v' : Value} {f g : For} (h : ISS lo hi w v f) (h' : Roo 22 2 w v' g) (hf : ∀ b ∈ f, b.length ≤ 1000000) (hg : ∀ b ∈ g, b.length ≤ 1000000) (hn : f.length + g.length ≤ 1000) :
    Does Tryz.prog 207 [v, v'] w fun r w' => Roo 22 2 w' r (timesF f g) ∧ Below w.heap.size w w' := by
  refine Does.enter Tryz.func207 Tryz.ntmps207 rfl (by rfl) ?_
  repeat' (first|refine X.O ?_|refine X.A ?_|refine X.B ?_|refine X.C ?_|refine X.D ?_|refine X.E ?_|refine X.F ?_|refine X.G ?_|refine X.H ?_|refine X.I ?_|fail)
  refine WL.call (l01Own2_any h hf (by omega)) ?_
  rintro v1 w1 ⟨vs1, o1, hbl1⟩
  have hz1 := hbl1.size
  obtain ⟨lo2, us, hu1, hu2, hu3⟩ := h'.tsame (TSame.below hbl1)
  have o2 : RooV 22 2 lo2 w1 v' us g := ⟨hu1, hu2, hu3⟩
  have hl1 := o1.2.1
  repeat' (first|refine X.O ?_|refine X.A ?_|refine X.B ?_|refine X.C ?_|refine X.D ?_|refine X.E ?_|refine X.F ?_|refine X.G ?_|refine X.H ?_|refine X.I ?_|fail)
  refine WL.step (o_append (us := vs1) (news := us) (by rfl) (by rfl) o1.1 hu1.src o2.one (by rw [hl1, hu2]; unfold maxLen; omega) (by rw [hl1, hu2]; omega) (by omega) ?_)
  intro v3 w3 hown3 hg3 hbl3 _
  have hz3 := hg3.size
  have hk : ∀ lo' x xs, Own lo' 2 w1 x (Ints xs) → Own lo' 2 w3 x (Ints xs) := fun lo' x xs hx => hx.keep fun k hk => hg3.block k (hx.block k hk).2 fun e => o1.1.ne_block hx (by decide) e.symm hk
  have hR : Roo 22 2 w3 v3 (f ++ g) := Roo.append (v1 := v) hown3 hl1 hu2 (fun i u xs hu hx => by obtain ⟨l, h1⟩ := o1.2.2 i u xs hu hx; exact ⟨l, hk _ _ _ h1⟩) (fun i u xs hu hx => by obtain ⟨l, h1⟩ := hu3 i u xs hu hx; exact ⟨l, hk _ _ _ h1⟩)
  refine WL.call (l03Sort_any hR.rd (fun b hb => by
    rcases List.mem_append.1 hb with h1 | h1
    · exact hf b h1
    · exact hg b h1) (by rw [List.length_append]; omega)) ?_
  rintro v4 w4 ⟨hR4, hbl4⟩
  repeat' (first|refine X.O ?_|refine X.A ?_|refine X.B ?_|refine X.C ?_|refine X.D ?_|refine X.E ?_|refine X.F ?_|refine X.G ?_|refine X.H ?_|refine X.I ?_|fail)
  refine ⟨_, ret1 rfl (by rfl), ?_⟩
  exact ⟨hR4, (hbl1.trans hbl3).trans (Below.mono hbl4 (by omega))⟩
theorem l03Branches_any {lo hi : Nat} {w : World} {v : Value} {t : List Int} (h : IS lo hi w v t) (ht : Lv t) (h8 : t.length ≤ 8) :
    Does Tryz.prog 176 [v] w fun r w' => Roo 22 2 w' r (branchesS t) ∧ Below w.heap.size w w' := by
  have hc := canonL_ok 8 ht h8 h8
  have hbr := branches_ok hc.1
  have hcnt := branchesL_count hc.1
  have hbl := Lv.le_flat (f := branchesL (canonL 8 t)) (fun b hb => (hbr.2 b hb).1)
  refine Does.enter Tryz.func176 Tryz.ntmps176 rfl (by rfl) ?_
  repeat' (first|refine X.O ?_|refine X.A ?_|refine X.B ?_|refine X.C ?_|refine X.D ?_|refine X.E ?_|refine X.F ?_|refine X.G ?_|refine X.H ?_|refine X.I ?_|fail)
  refine WL.call (l03Canon_any 8 (by omega) h ht h8) ?_
  intro v1 w1 hN1
  have hz1 := hN1.2.size
  refine WL.call (l03Parts_any hN1.ow.rd hc.1 (by omega)) ?_
  rintro v2 w2 ⟨⟨vs2, o2⟩, hbl2⟩
  have hz2 := hbl2.size
  refine WL.call (l03Sort_any o2.rd (fun b hb => by have := (hbr.2 b hb).2; omega) (by omega)) ?_
  rintro v3 w3 ⟨hR3, hbl3⟩
  repeat' (first|refine X.O ?_|refine X.A ?_|refine X.B ?_|refine X.C ?_|refine X.D ?_|refine X.E ?_|refine X.F ?_|refine X.G ?_|refine X.H ?_|refine X.I ?_|fail)
  refine ⟨_, ret1 rfl (by rfl), ?_⟩
  exact ⟨hR3, (hN1.2.trans (Below.mono hbl2 (by omega))).trans (Below.mono hbl3 (by omega))⟩
theorem l03Root_any {lo hi : Nat} {w : World} {v : Value} {bs : For} (h : ISS lo hi w v bs) (hL : ∀ b ∈ bs, Lv b) (h7 : bs.flatten.length ≤ 7) :
    Does Tryz.prog 178 [v] w fun r w' => NewI w r w' (canonL 8 (rootL bs)) := by
  obtain ⟨a, c, hv⟩ := h.shape
  subst hv
  have hhl := h.hi_le
  have hb : ∀ b ∈ bs, b.length ≤ 1000 ∧ ∀ x ∈ b, 0 ≤ x ∧ x ≤ 1000 := fun b hb => by
    have h1 := mem_le_flat hb
    exact ⟨by omega, fun x hx => by have := (hL b hb).bdm x hx; omega⟩
  have hn : bs.length ≤ 1000 := by have := Lv.le_flat hL; omega
  have hfl := rootF_len (bs := bs) fun b hb' => (hb b hb').1
  refine Does.enter Tryz.func178 Tryz.ntmps178 rfl (by rfl) ?_
  repeat' (first|refine X.O ?_|refine X.A ?_|refine X.B ?_|refine X.C ?_|refine X.D ?_|refine X.E ?_|refine X.F ?_|refine X.G ?_|refine X.H ?_|refine X.I ?_|fail)
  refine WL.step (o_lit (us := Ints [0]) (by rfl) (by rfl) rfl (by decide) Ints_one ?_)
  intro v1 w1 hown1 hbl1 hz1 _
  repeat' (first|refine X.O ?_|refine X.A ?_|refine X.B ?_|refine X.C ?_|refine X.D ?_|refine X.E ?_|refine X.F ?_|refine X.G ?_|refine X.H ?_|refine X.I ?_|fail)
  refine WP.loop (fun (s : Nat × Value) => [(0, .slice a bs.length c), (3, s.2), (4, .int .i64 (s.1 : Nat))])
    (fun s w2 => s.1 ≤ bs.length ∧ Own w.heap.size 2 w2 s.2 (Ints (rootF bs s.1)) ∧ Below w.heap.size w w2)
    (fun s => bs.length - s.1) (0, v1) ⟨rfl, rfl, rfl, trivial⟩ ⟨by dsimp only; omega, hown1, hbl1⟩ ?_
  rintro ⟨i, vo⟩ w2 ⟨hi1, hown2, hbl2⟩
  dsimp only at hi1 hown2 ⊢
  have hz2 := hbl2.size
  have hf1 := hfl i
  repeat' (first|refine X.O ?_|refine X.A ?_|refine X.B ?_|refine X.C ?_|refine X.D ?_|refine X.E ?_|refine X.F ?_|refine X.G ?_|refine X.H ?_|refine X.I ?_|fail)
  first|refine X.J (fun _ => ?_) (fun _ => ?_)|refine X.L (fun _ => ?_) (fun _ => ?_)|refine X.M (fun _ => ?_) (fun _ => ?_)|refine X.R (fun _ => ?_) (fun _ => ?_)|fail
  · rename_i hlt
    have hli : i < bs.length := by omega
    have hbi := hb _ (List.getElem_mem hli)
    repeat' (first|refine X.O ?_|refine X.A ?_|refine X.B ?_|refine X.C ?_|refine X.D ?_|refine X.E ?_|refine X.F ?_|refine X.G ?_|refine X.H ?_|refine X.I ?_|fail)
    refine WP.loop (fun (s : Nat × Value) => [(0, .slice a bs.length c), (3, s.2), (4, .int .i64 (i : Nat)), (5, .int .i64 (s.1 : Nat))])
      (fun s w3 => s.1 ≤ bs[i].length ∧ Own w.heap.size 2 w3 s.2 (Ints (rootF bs i ++ (bs[i].take s.1).map (· + 1))) ∧ Below w.heap.size w w3)
      (fun s => bs[i].length - s.1) (0, vo) ⟨rfl, rfl, rfl, rfl, trivial⟩ ⟨by dsimp only; omega, by simpa using hown2, hbl2⟩ ?_
    rintro ⟨k, vo3⟩ w3 ⟨hk1, hown3, hbl3⟩
    dsimp only at hk1 hown3 ⊢
    have hz3 := hbl3.size
    repeat' (first|refine X.O ?_|refine X.A ?_|refine X.B ?_|refine X.C ?_|refine X.D ?_|refine X.E ?_|refine X.F ?_|refine X.G ?_|refine X.H ?_|refine X.I ?_|fail)
    refine WL.ixload (j := i) (h.below IS.stable hbl3 hhl) (List.getElem?_eq_getElem hli) ?_
    intro p1 u hu
    obtain ⟨au, cu, hvu⟩ := hu.shape
    subst hvu
    repeat' (first|refine X.O ?_|refine X.A ?_|refine X.B ?_|refine X.C ?_|refine X.D ?_|refine X.E ?_|refine X.F ?_|refine X.G ?_|refine X.H ?_|refine X.I ?_|fail)
    first|refine X.J (fun _ => ?_) (fun _ => ?_)|refine X.L (fun _ => ?_) (fun _ => ?_)|refine X.M (fun _ => ?_) (fun _ => ?_)|refine X.R (fun _ => ?_) (fun _ => ?_)|fail
    · rename_i hltk
      have hlk : k < bs[i].length := by omega
      have hxk := hbi.2 _ (List.getElem_mem hlk)
      repeat' (first|refine X.O ?_|refine X.A ?_|refine X.B ?_|refine X.C ?_|refine X.D ?_|refine X.E ?_|refine X.F ?_|refine X.G ?_|refine X.H ?_|refine X.I ?_|fail)
      refine WL.ixload (j := i) (h.below IS.stable hbl3 hhl) (List.getElem?_eq_getElem hli) ?_
      intro p2 u2 hu2
      repeat' (first|refine X.O ?_|refine X.A ?_|refine X.B ?_|refine X.C ?_|refine X.D ?_|refine X.E ?_|refine X.F ?_|refine X.G ?_|refine X.H ?_|refine X.I ?_|fail)
      refine WL.ixload (j := k) hu2 (List.getElem?_eq_getElem hlk) ?_
      rintro p3 _ rfl
      repeat' (first|refine X.O ?_|refine X.A ?_|refine X.B ?_|refine X.C ?_|refine X.D ?_|refine X.E ?_|refine X.F ?_|refine X.G ?_|refine X.H ?_|refine X.I ?_|fail)
      have hlen : (rootF bs i ++ (bs[i].take k).map (· + 1)).length = (rootF bs i).length + k := by rw [List.length_append, List.length_map, List.length_take]; omega
      refine o_append1 (u := .int .i64 (bs[i][k] + 1)) (fun _ => by rfl) (by rfl) hown3 rfl (by rw [Ints_length, hlen]; simp [maxLen]; omega) (by rw [Ints_length, hlen]; omega) (by omega) ?_
      intro p4 v4 w4 hown4 hbl4 _ hz4 _
      repeat' (first|refine X.O ?_|refine X.A ?_|refine X.B ?_|refine X.C ?_|refine X.D ?_|refine X.E ?_|refine X.F ?_|refine X.G ?_|refine X.H ?_|refine X.I ?_|fail)
      refine ⟨(k + 1, v4), ⟨rfl, rfl, rfl, (by first|rfl|exact X.T (by omega)), trivial⟩, ⟨by dsimp only; omega, ?_, hbl3.trans hbl4⟩, by dsimp only; omega⟩
      dsimp only
      rw [List.take_succ_eq_append_getElem hlk, List.map_append, ← List.append_assoc, Ints_append]
      exact hown4
    · rename_i hgek
      have hke : k = bs[i].length := by omega
      subst hke
      rw [List.take_length, ← rootF_succ hli] at hown3
      repeat' (first|refine X.O ?_|refine X.A ?_|refine X.B ?_|refine X.C ?_|refine X.D ?_|refine X.E ?_|refine X.F ?_|refine X.G ?_|refine X.H ?_|refine X.I ?_|fail)
      exact ⟨(i + 1, vo3), ⟨rfl, rfl, (by first|rfl|exact X.T (by omega)), trivial⟩, ⟨by dsimp only; omega, hown3, hbl3⟩, by dsimp only; omega⟩
  · rename_i hge
    have hie : i = bs.length := by omega
    subst hie
    rw [rootF_all] at hown2
    repeat' (first|refine X.O ?_|refine X.A ?_|refine X.B ?_|refine X.C ?_|refine X.D ?_|refine X.E ?_|refine X.F ?_|refine X.G ?_|refine X.H ?_|refine X.I ?_|fail)
    refine WL.call (l03Canon_any 8 (by omega) (hown2.toIS (Nat.zero_le _)) (rootL_lv hL) (by rw [rootL_length]; omega)) ?_
    intro v3 w3 hN3
    repeat' (first|refine X.O ?_|refine X.A ?_|refine X.B ?_|refine X.C ?_|refine X.D ?_|refine X.E ?_|refine X.F ?_|refine X.G ?_|refine X.H ?_|refine X.I ?_|fail)
    refine ⟨_, ret1 rfl (by rfl), ?_⟩
    exact hN3.trans hbl2
end Go.Proofs
/- The reference's cuts of trees: l05Times, l05Forest, l05Tree, l05Cuts. -/
set_option maxRecDepth 8000
namespace Go.Fw
open Go Go.RowKit
section
variable {P : Program} {N : Nat} {Q : Exit → Fr → World → Prop} {S : World → Prop} {l : Fr} {w : World} {ops : Array Oper} {sc : List (Nat × Bool)}
/-- x[i].f of a slice of structs, in a drawn region. -/
theorem WS.ixfld3 {m m' m2 : Nat} {t t2 s e : TypeId} {z : Array Value} {bytes f off : Nat} [SliceTy3 P t e z bytes] [FieldTy P s f off] [CellTy P t2] {x y : Operand} {kk : IntKind} {i : Int} {j : Nat} {d1 d2 d3 lo : Nat} {e' : TypeId} {v u : Value} {ts : List Tri} {tr : Tri} {ty1 ty2 ty3 : TypeId} {pos1 pos2 pos3 : String} {af1 af2 af3 : Array Edge} {x2 x3 : Operand}
    (hi1 : ops[m]? = some ⟨some d1, .indexAddr t x y, ty1, pos1, af1, none⟩) (hi2 : ops[m']? = some ⟨some d2, .fieldAddr s x2 f, ty2, pos2, af2, none⟩) (hi3 : ops[m2]? = some ⟨some d3, .load t2 x3, ty3, pos3, af3, none⟩)
    (hs : ∀ w', S w' → Own3 lo e' w' v ts) (ha : ts[j]? = some tr) (hf : tr.cells[off]? = some u) (hS : S w)
    (k : ∀ p q, WS P N ops Q S sc ((d3, u) :: (d2, q) :: (d1, p) :: l) w) (hx : ev l x = some v := by rfl) (hy : ev l y = some (.int kk i) := by rfl) (hij : i = (j : Int) := by first | rfl | omega) (h2 : x2 = .tmp d1 := by rfl) (h3 : x3 = .tmp d2 := by rfl)
    (hd1 : Nat.blt d1 N = true := by rfl) (hd2 : Nat.blt d2 N = true := by rfl) (hd3 : Nat.blt d3 N = true := by rfl) :
    WS P N ops Q S ((m, true) :: (m', true) :: (m2, true) :: sc) l w := by
  subst h2 h3
  obtain ⟨g, c, rfl, _, _, _, _, _⟩ := (hs w hS).place ha
  have hlt := (List.getElem?_eq_some_iff.1 ha).1
  subst hij
  refine WS.q hi1 (q_ix3 hx hy (by omega) (by omega) rfl hd1) hS ?_
  rw [Nat.zero_add, Int.toNat_natCast]
  refine WS.q hi2 (q_field (look_cons_self _ _ _) rfl hd2) hS ?_
  have e1 : (⟨g, j * 3, none⟩ : Addr).add off = ⟨g, j * 3 + off, none⟩ := by unfold Addr.add; split <;> simp_all
  rw [e1]
  refine WS.q hi3 (q_load (look_cons_self _ _ _) (fun w' hw' => ?_) rfl hd3) hS (k _ _)
  obtain ⟨g', c', hv', _, _, hcell, _, _⟩ := (hs w' hw').place ha
  simp only [Value.slice.injEq, Option.some.injEq, Addr.mk.injEq] at hv'
  obtain ⟨⟨rfl, _⟩, _, _⟩ := hv'
  exact hcell off u hf
end
end Go.Fw
namespace Go.Rk
open Go.Fw Go.Proofs
theorem POk.len {n : Nat} {s : SplD} (h : POk n s) (hn : n ≤ 8) : s.1.length ≤ 8 ∧ s.2.1.length ≤ 8 ∧ (∀ b ∈ s.1, b.length ≤ 1000000) ∧ (∀ b ∈ s.2.1, b.length ≤ 1000000) ∧ s.1.flatten.length ≤ 8 ∧ s.2.1.flatten.length ≤ 8 := by
  have h1 := Lv.le_flat h.c
  have h2 := Lv.le_flat h.t
  have h3 := h.n
  exact ⟨by omega, by omega, fun b hb => by have := mem_le_flat hb; omega, fun b hb => by have := mem_le_flat hb; omega, by omega, by omega⟩
/-- What l05Put asks of a list. -/
theorem put_pre {n : Nat} {l : List SplD} (h : ∀ s ∈ l, POk n s) (hn : n ≤ 8) (ht : tot l ≤ 100000) : l.length ≤ 100000 ∧ ∀ y ∈ l, (0 ≤ y.2.2 ∧ y.2.2 ≤ 1000000) ∧ y.1.flatten.length ≤ 1000000000 := by
  obtain ⟨h1, h2⟩ := tot_len h
  refine ⟨by omega, fun y hy => ⟨⟨by have := (h y hy).pos; omega, by have := h2 y hy; omega⟩, by have := ((h y hy).len hn).2.2.2.2.1; omega⟩⟩
theorem tot_nonneg {n : Nat} {l : List SplD} (h : ∀ s ∈ l, POk n s) : 0 ≤ tot l := by have := (tot_len h).1; omega
theorem tot_take {n : Nat} {l : List SplD} (h : ∀ s ∈ l, POk n s) (i : Nat) : tot (l.take i) ≤ tot l ∧ 0 ≤ tot (l.take i) := by
  have e : tot l = tot (l.take i) + tot (l.drop i) := by rw [← tot_append, List.take_append_drop]
  have h1 := tot_nonneg (l := l.drop i) fun s hs => h s (List.mem_of_mem_drop hs)
  have h2 := tot_nonneg (l := l.take i) fun s hs => h s (List.mem_of_mem_take hs)
  omega
end Go.Rk
namespace Go.Proofs
open Go Go.Fw Go.RowKit Go.Rk
set_option maxHeartbeats 2000000 in
theorem l05Times_any {la lb m n : Nat} {w : World} {va vb : Value} {ta tb : List Tri} {a b : List SplD} (hA : Own3 la 111 w va ta) (hxA : SplG w ta a) (hB : Own3 lb 111 w vb tb) (hxB : SplG w tb b)
    (hok : ∀ s ∈ a, POk m s) (hokb : ∀ s ∈ b, POk n s) (hmn : m + n ≤ 8) (hta : tot a ≤ 256) (htb : tot b ≤ 256) :
    Does Tryz.prog 190 [va, vb] w fun r w' => (∃ ts', Own3 w.heap.size 111 w' r ts' ∧ SplG w' ts' (timesS a b)) ∧ Below w.heap.size w w' := by
  obtain ⟨aa, ca, hva, _⟩ := hA.shape
  obtain ⟨ab, cb, hvb, _⟩ := hB.shape
  have hla := hxA.1
  have hlb := hxB.1
  have hta0 := tot_nonneg hok
  have htb0 := tot_nonneg hokb
  obtain ⟨hta1, hta2⟩ := tot_len hok
  obtain ⟨htb1, htb2⟩ := tot_len hokb
  have h64 : tot a * tot b ≤ 256 * 256 := Int.mul_le_mul hta htb htb0 (by omega)
  have hst : ∀ i, (∀ s ∈ timesS (a.take i) b, POk (m + n) s) ∧ tot (timesS (a.take i) b) ≤ 65536 := fun i => by
    have h1 := timesS_ok (a := a.take i) (b := b) (fun s hs => hok s (List.mem_of_mem_take hs)) hokb
    obtain ⟨h2, h3⟩ := tot_take hok i
    have := Int.mul_le_mul (Int.le_trans h2 hta) htb htb0 (by omega)
    exact ⟨h1.1, by rw [h1.2]; omega⟩
  refine Does.enter Tryz.func190 Tryz.ntmps190 rfl (by rfl) ?_
  rw [hva, hvb]
  repeat' (first|refine X.O ?_|refine X.A ?_|refine X.B ?_|refine X.C ?_|refine X.D ?_|refine X.E ?_|refine X.F ?_|refine X.G ?_|refine X.H ?_|refine X.I ?_|fail)
  refine WL.step (o_lit30 ?_)
  intro v1 w1 hown1 hbl1 hz1
  repeat' (first|refine X.O ?_|refine X.A ?_|refine X.B ?_|refine X.C ?_|refine X.D ?_|refine X.E ?_|refine X.F ?_|refine X.G ?_|refine X.H ?_|refine X.I ?_|fail)
  refine WP.loop (fun (s : Nat × Value) => [(0, .slice aa ta.length ca), (1, .slice ab tb.length cb), (5, s.2), (6, .int .i64 (s.1 : Nat))])
    (fun s w2 => s.1 ≤ a.length ∧ (∃ to, Own3 w.heap.size 111 w2 s.2 to ∧ SplG w2 to (timesS (a.take s.1) b)) ∧ Below w.heap.size w w2)
    (fun s => a.length - s.1) (0, v1) ⟨rfl, rfl, rfl, rfl, trivial⟩ ⟨by dsimp only; omega, ⟨[], hown1, SplG.nil _⟩, hbl1⟩ ?_
  rintro ⟨i, vo⟩ w2 ⟨hi1, ⟨to, oo, hAo⟩, hbl2⟩
  dsimp only at hi1 oo hAo ⊢
  have hz2 := hbl2.size
  repeat' (first|refine X.O ?_|refine X.A ?_|refine X.B ?_|refine X.C ?_|refine X.D ?_|refine X.E ?_|refine X.F ?_|refine X.G ?_|refine X.H ?_|refine X.I ?_|fail)
  refine WL.step (o_len3 (by rfl) ?_)
  repeat' (first|refine X.O ?_|refine X.A ?_|refine X.B ?_|refine X.C ?_|refine X.D ?_|refine X.E ?_|refine X.F ?_|refine X.G ?_|refine X.H ?_|refine X.I ?_|fail)
  first|refine X.J (fun _ => ?_) (fun _ => ?_)|refine X.L (fun _ => ?_) (fun _ => ?_)|refine X.M (fun _ => ?_) (fun _ => ?_)|refine X.R (fun _ => ?_) (fun _ => ?_)|fail
  · rename_i hlt
    have hli : i < a.length := by omega
    have hlit : i < ta.length := by omega
    have hokx := hok _ (List.getElem_mem hli)
    have htx := hta2 _ (List.getElem_mem hli)
    have hts := timesS_succ (b := b) hli
    obtain ⟨x, hxE⟩ : ∃ x, a[i] = x := ⟨_, rfl⟩
    rw [hxE] at hokx htx hts
    have hin : ∀ j, (∀ s ∈ timesRow x (b.take j) (timesS (a.take i) b), POk (m + n) s) ∧ tot (timesRow x (b.take j) (timesS (a.take i) b)) ≤ 100000 * 2 := fun j => by
      have h1 := timesRow_ok hokx (b.take j) _ (fun s hs => hokb s (List.mem_of_mem_take hs)) (hst i).1
      obtain ⟨h2, h3⟩ := tot_take hokb j
      have := Int.mul_le_mul (Int.le_trans htx hta) (Int.le_trans h2 htb) h3 (by omega)
      exact ⟨h1.1, by rw [h1.2]; have := (hst i).2; omega⟩
    have hin2 : ∀ j, tot (timesRow x (b.take j) (timesS (a.take i) b)) ≤ 65536 := fun j => by
      have h1 := timesRow_ok hokx (b.take j) _ (fun s hs => hokb s (List.mem_of_mem_take hs)) (hst i).1
      have h2 := timesS_ok (a := a.take (i + 1)) (b := b) (fun s hs => hok s (List.mem_of_mem_take hs)) hokb
      have h3 := timesRow_ok hokx b _ hokb (hst i).1
      obtain ⟨h4, h5⟩ := tot_take hokb j
      have h6 := (hst (i + 1)).2
      rw [hts, h3.2] at h6
      have h7 := Int.mul_le_mul (Int.le_refl x.2.2) h4 h5 (by have := hokx.pos; omega)
      rw [h1.2]; omega
    repeat' (first|refine X.O ?_|refine X.A ?_|refine X.B ?_|refine X.C ?_|refine X.D ?_|refine X.E ?_|refine X.F ?_|refine X.G ?_|refine X.H ?_|refine X.I ?_|fail)
    refine WP.loop (fun (s : Nat × Value) => [(0, .slice aa ta.length ca), (1, .slice ab tb.length cb), (5, s.2), (6, .int .i64 (i : Nat)), (7, .int .i64 (s.1 : Nat))])
      (fun s w3 => s.1 ≤ b.length ∧ (∃ to, Own3 w.heap.size 111 w3 s.2 to ∧ SplG w3 to (timesRow x (b.take s.1) (timesS (a.take i) b))) ∧ Below w.heap.size w w3)
      (fun s => b.length - s.1) (0, vo) ⟨rfl, rfl, rfl, rfl, rfl, trivial⟩ ⟨by dsimp only; omega, ⟨to, oo, hAo⟩, hbl2⟩ ?_
    rintro ⟨j, vp⟩ w3 ⟨hj1, ⟨tp, op, hAp⟩, hbl3⟩
    dsimp only at hj1 op hAp ⊢
    have hz3 := hbl3.size
    have hA3 := hA.below hbl3 (Nat.le_refl _)
    have hB3 := hB.below hbl3 (Nat.le_refl _)
    rw [hva] at hA3
    rw [hvb] at hB3
    have hxA3 := hxA.tsame (TSame.below hbl3)
    have hxB3 := hxB.tsame (TSame.below hbl3)
    repeat' (first|refine X.O ?_|refine X.A ?_|refine X.B ?_|refine X.C ?_|refine X.D ?_|refine X.E ?_|refine X.F ?_|refine X.G ?_|refine X.H ?_|refine X.I ?_|fail)
    refine WL.step (o_len3 (by rfl) ?_)
    repeat' (first|refine X.O ?_|refine X.A ?_|refine X.B ?_|refine X.C ?_|refine X.D ?_|refine X.E ?_|refine X.F ?_|refine X.G ?_|refine X.H ?_|refine X.I ?_|fail)
    first|refine X.J (fun _ => ?_) (fun _ => ?_)|refine X.L (fun _ => ?_) (fun _ => ?_)|refine X.M (fun _ => ?_) (fun _ => ?_)|refine X.R (fun _ => ?_) (fun _ => ?_)|fail
    · rename_i hltj
      have hlj : j < b.length := by omega
      have hljt : j < tb.length := by omega
      have hoky := hokb _ (List.getElem_mem hlj)
      have hty := htb2 _ (List.getElem_mem hlj)
      have hrs := timesRow_succ (x := x) (out := timesS (a.take i) b) hlj
      have hsx := hxA3.2 i _ _ (List.getElem?_eq_getElem hlit) (List.getElem?_eq_getElem hli)
      have hsy := hxB3.2 j _ _ (List.getElem?_eq_getElem hljt) (List.getElem?_eq_getElem hlj)
      rw [hxE] at hsx
      obtain ⟨y, hyE⟩ : ∃ y, b[j] = y := ⟨_, rfl⟩
      rw [hyE] at hoky hty hrs hsy
      obtain ⟨⟨xc, xt, xn⟩, htx⟩ : ∃ s, ta[i] = s := ⟨_, rfl⟩
      obtain ⟨⟨yc, yt, yn⟩, hty2⟩ : ∃ s, tb[j] = s := ⟨_, rfl⟩
      rw [htx] at hsx
      rw [hty2] at hsy
      have hxn : xn = .int .i64 x.2.2 := hsx.2.2
      have hyn : yn = .int .i64 y.2.2 := hsy.2.2
      subst hxn hyn
      have hlx := hokx.len (by omega)
      have hly := hoky.len (by omega)
      have hmul : 0 ≤ x.2.2 * y.2.2 ∧ x.2.2 * y.2.2 ≤ 65536 := by
        have h1 := hokx.pos; have h2 := hoky.pos
        have h3 := Int.mul_nonneg (show 0 ≤ x.2.2 by omega) (show 0 ≤ y.2.2 by omega)
        have h4 := Int.mul_le_mul (show x.2.2 ≤ 256 by omega) (show y.2.2 ≤ 256 by omega) (by omega) (by omega)
        omega
      have hpre := put_pre (hin j).1 hmn (by have := hin2 j; omega)
      have htd := timesD_ok hokx hoky
      repeat' (first|refine X.O ?_|refine X.A ?_|refine X.B ?_|refine X.C ?_|refine X.D ?_|refine X.E ?_|refine X.F ?_|refine X.G ?_|refine X.H ?_|refine X.I ?_|fail)
      refine WP.drawn (fun w' => Below w3.heap.size w3 w') [(0, true), (1, true), (2, true), (3, true), (4, true), (5, true), (6, true), (7, true), (8, true), (9, true), (10, true), (12, true), (13, true), (14, true), (15, true), (16, true), (17, true), (18, true), (19, true), (20, true), (21, true), (23, true), (24, true), (25, true), (26, true), (27, true), (28, true), (29, true), (30, true), (31, true), (32, true), (33, true), (11, false), (22, false), (34, false), (35, false), (36, true)] (by kernel_rfl) mixed ?_
      intro w4 hs4
      have hz4 := hs4.size
      have hS4 : Below w3.heap.size w3 w4 := hs4.below _
      have hAS : ∀ w', Below w3.heap.size w3 w' → Own3 la 111 w' (.slice aa ta.length ca) ta := fun w' h => hA3.below h (Nat.le_refl _)
      have hBS : ∀ w', Below w3.heap.size w3 w' → Own3 lb 111 w' (.slice ab tb.length cb) tb := fun w' h => hB3.below h (Nat.le_refl _)
      have hgx : ta[i]? = some (xc, xt, .int .i64 x.2.2) := by rw [List.getElem?_eq_getElem hlit, htx]
      have hgy : tb[j]? = some (yc, yt, .int .i64 y.2.2) := by rw [List.getElem?_eq_getElem hljt, hty2]
      repeat' (first|refine X.U rfl ?_|refine X.V rfl ?_|refine X.W rfl ?_|refine X.Y rfl ?_|refine X.Z rfl ?_|refine WS.nil ?_|fail)
      refine WS.ixfld3 (j := i) (off := 0) rfl rfl rfl hAS hgx (by rfl) hS4 ?_
      intro _ _
      repeat' (first|refine X.U rfl ?_|refine X.V rfl ?_|refine X.W rfl ?_|refine X.Y rfl ?_|refine X.Z rfl ?_|refine WS.nil ?_|fail)
      refine WS.ixfld3 (j := j) (off := 0) rfl rfl rfl hBS hgy (by rfl) hS4 ?_
      intro _ _
      repeat' (first|refine X.U rfl ?_|refine X.V rfl ?_|refine X.W rfl ?_|refine X.Y rfl ?_|refine X.Z rfl ?_|refine WS.nil ?_|fail)
      refine WS.ixfld3 (j := i) (off := 1) rfl rfl rfl hAS hgx (by rfl) hS4 ?_
      intro _ _
      repeat' (first|refine X.U rfl ?_|refine X.V rfl ?_|refine X.W rfl ?_|refine X.Y rfl ?_|refine X.Z rfl ?_|refine WS.nil ?_|fail)
      refine WS.ixfld3 (j := j) (off := 1) rfl rfl rfl hBS hgy (by rfl) hS4 ?_
      intro _ _
      repeat' (first|refine X.U rfl ?_|refine X.V rfl ?_|refine X.W rfl ?_|refine X.Y rfl ?_|refine X.Z rfl ?_|refine WS.nil ?_|fail)
      refine WS.ixfld3 (j := i) (off := 2) rfl rfl rfl hAS hgx (by rfl) hS4 ?_
      intro _ _
      repeat' (first|refine X.U rfl ?_|refine X.V rfl ?_|refine X.W rfl ?_|refine X.Y rfl ?_|refine X.Z rfl ?_|refine WS.nil ?_|fail)
      refine WS.ixfld3 (j := j) (off := 2) rfl rfl rfl hBS hgy (by rfl) hS4 ?_
      intro _ _
      refine WS.q rfl (q_mul (by rfl) (by rfl) (by unfold InI; omega)) hS4 ?_
      have hsx4 := hsx.tsame (TSame.below hS4)
      have hsy4 := hsy.tsame (TSame.below hS4)
      refine WS.call rfl (l03Times_any hsx4.1.rd hsy4.1 hlx.2.2.1 hly.2.2.1 (by dsimp only; omega)) ?_
      rintro vC w5 ⟨hRC, hbl5⟩
      have hz5 := hbl5.size
      have hS5 := hS4.trans (Below.mono hbl5 (by omega))
      refine ⟨hS5, ?_⟩
      have hsx5 := hsx4.tsame (TSame.below hbl5)
      have hsy5 := hsy4.tsame (TSame.below hbl5)
      refine WS.call rfl (l03Times_any hsx5.2.1.rd hsy5.2.1 hlx.2.2.2.1 hly.2.2.2.1 (by dsimp only; omega)) ?_
      rintro vT w6 ⟨hRT, hbl6⟩
      have hz6 := hbl6.size
      have hS6 := hS5.trans (Below.mono hbl6 (by omega))
      refine ⟨hS6, ?_⟩
      have hRC6 := hRC.tsame (TSame.below hbl6)
      obtain ⟨aC, cC, hvC⟩ := hRC6.shape
      obtain ⟨aT, cT, hvT⟩ := hRT.shape
      dsimp only at hvC hvT
      subst hvC hvT
      refine WS.op rfl (o_build (us := [.slice aC (timesF x.1 y.1).length cC, .slice aT (timesF x.2.1 y.2.1).length cT, .int .i64 (x.2.2 * y.2.2)]) (cells := [.slice aC (timesF x.1 y.1).length cC, .slice aT (timesF x.2.1 y.2.1).length cT, .int .i64 (x.2.2 * y.2.2)]) (by rfl) (by rfl) ?_)
      refine ⟨hS6, ?_⟩
      have op6 := op.below hS6 (Nat.le_refl _)
      have hAp6 := hAp.tsame (TSame.below hS6)
      refine WS.call rfl (l05Put_any (c := (.slice aC (timesF x.1 y.1).length cC, .slice aT (timesF x.2.1 y.2.1).length cT, .int .i64 (x.2.2 * y.2.2))) (x := timesD x y) op6 hAp6 ⟨hRC6, hRT, rfl⟩ hpre.1 ⟨hmul.1, by show x.2.2 * y.2.2 ≤ _; omega⟩ (by have := (htd.len hmn).2.2.2.2.1; omega) hpre.2) ?_
      rintro v7 w7 ⟨⟨t7, o7, hA7⟩, hbl7⟩
      have hz7 := hbl7.size
      have hS7 := hS6.trans (Below.mono hbl7 (by omega))
      refine ⟨hS7, ?_⟩
      repeat' (first|refine X.U rfl ?_|refine X.V rfl ?_|refine X.W rfl ?_|refine X.Y rfl ?_|refine X.Z rfl ?_|refine WS.nil ?_|fail)
      repeat' (first|refine X.O ?_|refine X.A ?_|refine X.B ?_|refine X.C ?_|refine X.D ?_|refine X.E ?_|refine X.F ?_|refine X.G ?_|refine X.H ?_|refine X.I ?_|fail)
      exact ⟨(j + 1, v7), ⟨rfl, rfl, rfl, rfl, (by first|rfl|exact X.T (by omega)), trivial⟩, ⟨by dsimp only; omega, ⟨t7, o7.lower (by omega), by dsimp only; rw [hrs]; exact hA7⟩, hbl3.trans (Below.mono hS7 (by omega))⟩, by dsimp only; omega⟩
    · rename_i hgej
      have hje : j = b.length := by omega
      subst hje
      rw [List.take_length, ← hts] at hAp
      repeat' (first|refine X.O ?_|refine X.A ?_|refine X.B ?_|refine X.C ?_|refine X.D ?_|refine X.E ?_|refine X.F ?_|refine X.G ?_|refine X.H ?_|refine X.I ?_|fail)
      exact ⟨(i + 1, vp), ⟨rfl, rfl, rfl, (by first|rfl|exact X.T (by omega)), trivial⟩, ⟨by dsimp only; omega, ⟨tp, op, hAp⟩, hbl3⟩, by dsimp only; omega⟩
  · rename_i hge
    have hie : i = a.length := by omega
    subst hie
    rw [List.take_length] at hAo
    repeat' (first|refine X.O ?_|refine X.A ?_|refine X.B ?_|refine X.C ?_|refine X.D ?_|refine X.E ?_|refine X.F ?_|refine X.G ?_|refine X.H ?_|refine X.I ?_|fail)
    refine ⟨_, ret1 rfl (by rfl), ?_⟩
    exact ⟨⟨to, oo, hAo⟩, hbl2⟩
/-- What l05Tree gives at f. -/
def TreeAt5 (f : Nat) : Prop := ∀ {lo hi : Nat} {w : World} {v : Value} {t : List Int}, IS lo hi w v t → Lv t → t.length ≤ f → t.length ≤ 8 →
    Does Tryz.prog 159 [v] w fun r w' => (∃ ts, Own3 w.heap.size 111 w' r ts ∧ SplG w' ts (treeS f t)) ∧ Below w.heap.size w w'
theorem l05Forest_of {f : Nat} (ihT : TreeAt5 f) {w : World} {v : Value} {bs : For} (h : Roo 22 2 w v bs) (hL : ∀ b ∈ bs, Lv b ∧ b.length ≤ f) (h7 : bs.flatten.length ≤ 7) :
    Does Tryz.prog 175 [v] w fun r w' => (∃ ts, Own3 w.heap.size 111 w' r ts ∧ SplG w' ts (forestSt f bs bs.length)) ∧ Below w.heap.size w w' := by
  have hR := h.rd
  obtain ⟨a, c, hv⟩ := hR.shape
  subst hv
  have htk : ∀ i, (bs.take i).flatten.length ≤ 7 := fun i => by have := flat_take_le bs i; omega
  have htr : ∀ b ∈ bs, (∀ s ∈ treeS f b, POk b.length s) ∧ 0 ≤ tot (treeS f b) ∧ tot (treeS f b) ≤ 2 ^ b.length := fun b hb => treeS_ok f (hL b hb).1 (hL b hb).2 (by have := mem_le_flat hb; omega)
  have hfo := forestSt_ok htr
  have hbn : bs.length ≤ 7 := by have := Lv.le_flat (f := bs) (fun b hb => (hL b hb).1); omega
  refine Does.enter Tryz.func175 Tryz.ntmps175 rfl (by rfl) ?_
  repeat' (first|refine X.O ?_|refine X.A ?_|refine X.B ?_|refine X.C ?_|refine X.D ?_|refine X.E ?_|refine X.F ?_|refine X.G ?_|refine X.H ?_|refine X.I ?_|fail)
  refine WL.step (o_build (us := [.int .i64 1]) (cells := [.slice none 0 0, .slice none 0 0, .int .i64 1]) (by rfl) (by rfl) ?_)
  refine WL.step (o_lit31 (tr := (.slice none 0 0, .slice none 0 0, .int .i64 1)) (by rfl) ?_)
  intro v1 w1 hown1 hbl1 hz1
  have hA1 : SplG w1 [(.slice none 0 0, .slice none 0 0, .int .i64 1)] (forestSt f bs 0) := (SplG.nil w1).snoc (x := ([], [], 1)) ⟨Roo.nil _ _ _, Roo.nil _ _ _, rfl⟩
  repeat' (first|refine X.O ?_|refine X.A ?_|refine X.B ?_|refine X.C ?_|refine X.D ?_|refine X.E ?_|refine X.F ?_|refine X.G ?_|refine X.H ?_|refine X.I ?_|fail)
  refine WP.loop (fun (s : Nat × Value) => [(0, .slice a bs.length c), (3, s.2), (4, .int .i64 (s.1 : Nat))])
    (fun s w2 => s.1 ≤ bs.length ∧ (∃ to, Own3 w.heap.size 111 w2 s.2 to ∧ SplG w2 to (forestSt f bs s.1)) ∧ Below w.heap.size w w2)
    (fun s => bs.length - s.1) (0, v1) ⟨rfl, rfl, rfl, trivial⟩ ⟨by dsimp only; omega, ⟨_, hown1, hA1⟩, hbl1⟩ ?_
  rintro ⟨i, vo⟩ w2 ⟨hi1, ⟨to, oo, hAo⟩, hbl2⟩
  dsimp only at hi1 oo hAo ⊢
  have hz2 := hbl2.size
  repeat' (first|refine X.O ?_|refine X.A ?_|refine X.B ?_|refine X.C ?_|refine X.D ?_|refine X.E ?_|refine X.F ?_|refine X.G ?_|refine X.H ?_|refine X.I ?_|fail)
  first|refine X.J (fun _ => ?_) (fun _ => ?_)|refine X.L (fun _ => ?_) (fun _ => ?_)|refine X.M (fun _ => ?_) (fun _ => ?_)|refine X.R (fun _ => ?_) (fun _ => ?_)|fail
  · rename_i hlt
    have hli : i < bs.length := by omega
    have hbi := hL _ (List.getElem_mem hli)
    have hti := htr _ (List.getElem_mem hli)
    have hml := mem_le_flat (List.getElem_mem hli)
    obtain ⟨hf1, hf2, hf3⟩ := hfo i (by omega)
    have hnm : (bs.take i).flatten.length + bs[i].length ≤ 8 := by have := flat_take_len hli; have := htk (i + 1); omega
    have hp1 := pow_256 (n := (bs.take i).flatten.length) (by omega)
    have hp2 := pow_256 (n := bs[i].length) (by omega)
    repeat' (first|refine X.O ?_|refine X.A ?_|refine X.B ?_|refine X.C ?_|refine X.D ?_|refine X.E ?_|refine X.F ?_|refine X.G ?_|refine X.H ?_|refine X.I ?_|fail)
    refine WL.ixload (j := i) (hR.below IS.stable hbl2 (Nat.le_refl _)) (List.getElem?_eq_getElem hli) ?_
    intro p1 u hu
    repeat' (first|refine X.O ?_|refine X.A ?_|refine X.B ?_|refine X.C ?_|refine X.D ?_|refine X.E ?_|refine X.F ?_|refine X.G ?_|refine X.H ?_|refine X.I ?_|fail)
    refine WL.call (ihT hu hbi.1 hbi.2 (by omega)) ?_
    rintro v3 w3 ⟨⟨t3, o3, hA3⟩, hbl3⟩
    have hz3 := hbl3.size
    repeat' (first|refine X.O ?_|refine X.A ?_|refine X.B ?_|refine X.C ?_|refine X.D ?_|refine X.E ?_|refine X.F ?_|refine X.G ?_|refine X.H ?_|refine X.I ?_|fail)
    refine WL.call (l05Times_any (oo.below hbl3 (Nat.le_refl _)) (hAo.tsame (TSame.below hbl3)) o3 hA3 hf1 hti.1 hnm (by omega) (by omega)) ?_
    rintro v4 w4 ⟨⟨t4, o4, hA4⟩, hbl4⟩
    have hz4 := hbl4.size
    rw [← forestSt_succ hli] at hA4
    repeat' (first|refine X.O ?_|refine X.A ?_|refine X.B ?_|refine X.C ?_|refine X.D ?_|refine X.E ?_|refine X.F ?_|refine X.G ?_|refine X.H ?_|refine X.I ?_|fail)
    exact ⟨(i + 1, v4), ⟨rfl, rfl, (by first|rfl|exact X.T (by omega)), trivial⟩, ⟨by dsimp only; omega, ⟨t4, o4.lower (by omega), hA4⟩, (hbl2.trans (Below.mono hbl3 (by omega))).trans (Below.mono hbl4 (by omega))⟩, by dsimp only; omega⟩
  · rename_i hge
    have hie : i = bs.length := by omega
    subst hie
    repeat' (first|refine X.O ?_|refine X.A ?_|refine X.B ?_|refine X.C ?_|refine X.D ?_|refine X.E ?_|refine X.F ?_|refine X.G ?_|refine X.H ?_|refine X.I ?_|fail)
    refine ⟨_, ret1 rfl (by rfl), ?_⟩
    exact ⟨⟨to, oo, hAo⟩, hbl2⟩
set_option maxHeartbeats 1000000 in
theorem l05Tree_any (f : Nat) : TreeAt5 f := by
  induction f with
  | zero => intro _ _ _ _ t _ ht hn; exact absurd ht.pos (by omega)
  | succ f ih =>
  intro lo hi w v t h ht hn h8
  have hz := h.hi_le
  obtain ⟨hbr, hcnt⟩ := branchesS_ok ht h8
  have htr : ∀ b ∈ branchesS t, (∀ s ∈ treeS f b, POk b.length s) ∧ 0 ≤ tot (treeS f b) ∧ tot (treeS f b) ≤ 2 ^ b.length := fun b hb => treeS_ok f (hbr b hb).1 (by have := (hbr b hb).2; omega) (by have := (hbr b hb).2; omega)
  have hfo := forestSt_ok htr _ (Nat.le_refl _)
  rw [List.take_length] at hfo
  have htS := treeS_succ f t
  have h7 : (branchesS t).flatten.length ≤ 7 := by omega
  have hp256 := pow_256 (n := (branchesS t).flatten.length) (by omega)
  have h0 : ∀ s ∈ [(([t], [], 1) : SplD)], POk ((branchesS t).flatten.length + 1) s := fun s hs => by
    simp at hs; subst hs
    exact ⟨fun b hb => by simp at hb; subst hb; exact ht, fun b hb => by simp at hb, by show [t].flatten.length + ([] : For).flatten.length = _; rw [show [t].flatten = t from by simp, List.flatten_nil, List.length_nil]; omega, by simp⟩
  refine Does.enter Tryz.func159 Tryz.ntmps159 rfl (by rfl) ?_
  repeat' (first|refine X.O ?_|refine X.A ?_|refine X.B ?_|refine X.C ?_|refine X.D ?_|refine X.E ?_|refine X.F ?_|refine X.G ?_|refine X.H ?_|refine X.I ?_|fail)
  refine WL.call (l03Branches_any h ht h8) ?_
  rintro v1 w1 ⟨hR1, hbl1⟩
  have hz1 := hbl1.size
  refine WL.call (l05Forest_of ih hR1 (fun b hb => ⟨(hbr b hb).1, by have := (hbr b hb).2; omega⟩) h7) ?_
  rintro v2 w2 ⟨⟨t2, o2, hA2⟩, hbl2⟩
  have hz2 := hbl2.size
  obtain ⟨B, hB⟩ : ∃ B, forestSt f (branchesS t) (branchesS t).length = B := ⟨_, rfl⟩
  rw [hB] at hA2 hfo htS
  have hBl : B.length ≤ 256 := by have := (tot_len hfo.1).1; omega
  have hbl02 : Below w.heap.size w w2 := hbl1.trans (Below.mono hbl2 (by omega))
  have hl2 := hA2.1
  obtain ⟨a2, c2, hv2, _⟩ := o2.shape
  subst hv2
  have hall : ∀ i, (∀ s ∈ putAll (B.take i) [([t], [], 1)], POk ((branchesS t).flatten.length + 1) s) ∧ tot (putAll (B.take i) [([t], [], 1)]) ≤ 1 + 256 := fun i => by
    have h1 := putAll_ok h7 (B.take i) _ (fun s hs => hfo.1 s (List.mem_of_mem_take hs)) h0
    obtain ⟨h2, h3⟩ := tot_take hfo.1 i
    have h4 : tot [(([t], [], 1) : SplD)] = 1 := rfl
    exact ⟨h1.1, by rw [h1.2, h4]; omega⟩
  repeat' (first|refine X.O ?_|refine X.A ?_|refine X.B ?_|refine X.C ?_|refine X.D ?_|refine X.E ?_|refine X.F ?_|refine X.G ?_|refine X.H ?_|refine X.I ?_|fail)
  refine WL.call (l01Own_grow (h.below RI.stable hbl02 hz) (by omega)) ?_
  intro v3 w3 hN3
  have hz3 := hN3.2.size
  obtain ⟨a3, n3, c3, rfl⟩ : ∃ a n c, v3 = Value.slice a n c := by obtain ⟨a, c, h, _⟩ := hN3.1.shape; exact ⟨_, _, _, h⟩
  refine WL.step (o_lit (us := [.slice a3 n3 c3]) (by rfl) (by rfl) rfl (by decide) (one1 rfl) ?_)
  intro v4 w4 hown4 hbl4 hz4 hv4
  have hroo : Roo 22 2 w4 v4 [t] := Roo.single hown4 (hN3.1.below hbl4 (Nat.le_refl _))
  subst hv4
  refine WL.step (o_build (us := [.slice (some ⟨w3.heap.size, 0, none⟩) 1 1, .int .i64 1]) (cells := [.slice (some ⟨w3.heap.size, 0, none⟩) 1 1, .slice none 0 0, .int .i64 1]) (by rfl) (by rfl) ?_)
  refine WL.step (o_lit31 (tr := (.slice (some ⟨w3.heap.size, 0, none⟩) 1 1, .slice none 0 0, .int .i64 1)) (by rfl) ?_)
  intro v5 w5 hown5 hbl5 hz5
  have hbl25 : Below w2.heap.size w2 w5 := (hN3.2.trans (Below.mono hbl4 (by omega))).trans (Below.mono hbl5 (by omega))
  have hA5 : SplG w5 [(.slice (some ⟨w3.heap.size, 0, none⟩) 1 1, .slice none 0 0, .int .i64 1)] (putAll (B.take 0) [([t], [], 1)]) := (SplG.nil w5).snoc (x := ([t], [], 1)) ⟨hroo.tsame (TSame.below hbl5), Roo.nil _ _ _, rfl⟩
  repeat' (first|refine X.O ?_|refine X.A ?_|refine X.B ?_|refine X.C ?_|refine X.D ?_|refine X.E ?_|refine X.F ?_|refine X.G ?_|refine X.H ?_|refine X.I ?_|fail)
  refine WP.loop (fun (s : Nat × Value) => [(3, .slice a2 t2.length c2), (4, s.2), (5, .int .i64 (s.1 : Nat))])
    (fun s w6 => s.1 ≤ B.length ∧ (∃ to, Own3 w.heap.size 111 w6 s.2 to ∧ SplG w6 to (putAll (B.take s.1) [([t], [], 1)])) ∧ Below w2.heap.size w2 w6)
    (fun s => B.length - s.1) (0, v5) ⟨rfl, rfl, rfl, trivial⟩ ⟨by dsimp only; omega, ⟨_, hown5.lower (by omega), hA5⟩, hbl25⟩ ?_
  rintro ⟨i, vo⟩ w6 ⟨hi1, ⟨to, oo, hAo⟩, hbl6⟩
  dsimp only at hi1 oo hAo ⊢
  have hz6 := hbl6.size
  have o26 := o2.below hbl6 (Nat.le_refl _)
  have hA26 := hA2.tsame (TSame.below hbl6)
  repeat' (first|refine X.O ?_|refine X.A ?_|refine X.B ?_|refine X.C ?_|refine X.D ?_|refine X.E ?_|refine X.F ?_|refine X.G ?_|refine X.H ?_|refine X.I ?_|fail)
  refine WL.step (o_len3 (by rfl) ?_)
  repeat' (first|refine X.O ?_|refine X.A ?_|refine X.B ?_|refine X.C ?_|refine X.D ?_|refine X.E ?_|refine X.F ?_|refine X.G ?_|refine X.H ?_|refine X.I ?_|fail)
  first|refine X.J (fun _ => ?_) (fun _ => ?_)|refine X.L (fun _ => ?_) (fun _ => ?_)|refine X.M (fun _ => ?_) (fun _ => ?_)|refine X.R (fun _ => ?_) (fun _ => ?_)|fail
  · rename_i hlt
    have hli : i < B.length := by omega
    have hlit : i < t2.length := by omega
    have hokx := hfo.1 _ (List.getElem_mem hli)
    have htx := (tot_len hfo.1).2 _ (List.getElem_mem hli)
    have hsx := hA26.2 i _ _ (List.getElem?_eq_getElem hlit) (List.getElem?_eq_getElem hli)
    have hps := putAll_succ (out := [([t], [], 1)]) hli
    obtain ⟨x, hxE⟩ : ∃ x, B[i] = x := ⟨_, rfl⟩
    rw [hxE] at hokx htx hsx hps
    obtain ⟨⟨xc, xt, xn⟩, htxE⟩ : ∃ s, t2[i] = s := ⟨_, rfl⟩
    rw [htxE] at hsx
    have hxn : xn = .int .i64 x.2.2 := hsx.2.2
    subst hxn
    have hgx : t2[i]? = some (xc, xt, .int .i64 x.2.2) := by rw [List.getElem?_eq_getElem hlit, htxE]
    have hpre := put_pre (hall i).1 (by omega) (by have := (hall i).2; omega)
    have hrk := rootS_ok h7 hokx
    have hlx := hokx.len (by omega)
    have hxp := hokx.pos
    have hxn := hokx.n
    repeat' (first|refine X.O ?_|refine X.A ?_|refine X.B ?_|refine X.C ?_|refine X.D ?_|refine X.E ?_|refine X.F ?_|refine X.G ?_|refine X.H ?_|refine X.I ?_|fail)
    refine WP.drawn (fun w' => Below w6.heap.size w6 w') [(0, true), (1, true), (2, true), (3, true), (4, true), (5, true), (6, true), (7, true), (8, true), (9, true), (10, true), (13, true), (14, true), (15, true), (16, true), (17, true), (11, false), (12, false), (18, false), (19, false), (20, true)] (by kernel_rfl) mixed ?_
    intro w7 hs7
    have hz7 := hs7.size
    have hS7 : Below w6.heap.size w6 w7 := hs7.below _
    have hAS : ∀ w', Below w6.heap.size w6 w' → Own3 w1.heap.size 111 w' (.slice a2 t2.length c2) t2 := fun w' h => o26.below h (Nat.le_refl _)
    repeat' (first|refine X.U rfl ?_|refine X.V rfl ?_|refine X.W rfl ?_|refine X.Y rfl ?_|refine X.Z rfl ?_|refine WS.nil ?_|fail)
    refine WS.ixfld3 (j := i) (off := 0) rfl rfl rfl hAS hgx (by rfl) hS7 ?_
    intro _ _
    repeat' (first|refine X.U rfl ?_|refine X.V rfl ?_|refine X.W rfl ?_|refine X.Y rfl ?_|refine X.Z rfl ?_|refine WS.nil ?_|fail)
    refine WS.ixfld3 (j := i) (off := 1) rfl rfl rfl hAS hgx (by rfl) hS7 ?_
    intro _ _
    repeat' (first|refine X.U rfl ?_|refine X.V rfl ?_|refine X.W rfl ?_|refine X.Y rfl ?_|refine X.Z rfl ?_|refine WS.nil ?_|fail)
    refine WS.ixfld3 (j := i) (off := 2) rfl rfl rfl hAS hgx (by rfl) hS7 ?_
    intro _ _
    have hsx7 := hsx.tsame (TSame.below hS7)
    refine WS.call rfl (l03Root_any hsx7.2.1.rd hokx.t (by dsimp only; omega)) ?_
    intro v8 w8 hN8
    have hz8 := hN8.2.size
    have hS8 := hS7.trans (Below.mono hN8.2 (by omega))
    refine ⟨hS8, ?_⟩
    obtain ⟨a8, n8, c8, rfl⟩ : ∃ a n c, v8 = Value.slice a n c := by obtain ⟨a, c, h, _⟩ := hN8.1.shape; exact ⟨_, _, _, h⟩
    refine WS.op rfl (o_lit (us := [.slice a8 n8 c8]) (by rfl) (by rfl) rfl (by decide) (one1 rfl) ?_)
    intro v9 w9 hown9 hbl9 hz9 hv9
    have hS9 := hS8.trans (Below.mono hbl9 (by omega))
    refine ⟨hS9, ?_⟩
    have hroo9 : Roo 22 2 w9 v9 [canonL 8 (rootL x.2.1)] := Roo.single hown9 (hN8.1.below hbl9 (Nat.le_refl _))
    subst hv9
    have hsx9 := hsx.tsame (TSame.below hS9)
    obtain ⟨axc, cxc, hxc⟩ := hsx9.1.shape
    dsimp only at hxc
    subst hxc
    refine WS.op rfl (o_build (us := [.slice axc x.1.length cxc, .slice (some ⟨w8.heap.size, 0, none⟩) 1 1, .int .i64 x.2.2]) (cells := [.slice axc x.1.length cxc, .slice (some ⟨w8.heap.size, 0, none⟩) 1 1, .int .i64 x.2.2]) (by rfl) (by rfl) ?_)
    refine ⟨hS9, ?_⟩
    refine WS.call rfl (l05Put_any (c := (.slice axc x.1.length cxc, .slice (some ⟨w8.heap.size, 0, none⟩) 1 1, .int .i64 x.2.2)) (x := rootS x) (oo.below hS9 (Nat.le_refl _)) (hAo.tsame (TSame.below hS9)) ⟨hsx9.1, hroo9, rfl⟩ hpre.1 ⟨by show 0 ≤ x.2.2; omega, by show x.2.2 ≤ _; omega⟩ (by show x.1.flatten.length ≤ _; omega) hpre.2) ?_
    rintro v10 w10 ⟨⟨t10, o10, hA10⟩, hbl10⟩
    have hz10 := hbl10.size
    have hS10 := hS9.trans (Below.mono hbl10 (by omega))
    refine ⟨hS10, ?_⟩
    repeat' (first|refine X.U rfl ?_|refine X.V rfl ?_|refine X.W rfl ?_|refine X.Y rfl ?_|refine X.Z rfl ?_|refine WS.nil ?_|fail)
    repeat' (first|refine X.O ?_|refine X.A ?_|refine X.B ?_|refine X.C ?_|refine X.D ?_|refine X.E ?_|refine X.F ?_|refine X.G ?_|refine X.H ?_|refine X.I ?_|fail)
    exact ⟨(i + 1, v10), ⟨rfl, rfl, (by first|rfl|exact X.T (by omega)), trivial⟩, ⟨by dsimp only; omega, ⟨t10, o10.lower (by omega), by dsimp only; rw [hps]; exact hA10⟩, hbl6.trans (Below.mono hS10 (by omega))⟩, by dsimp only; omega⟩
  · rename_i hge
    have hie : i = B.length := by omega
    subst hie
    rw [List.take_length, ← htS] at hAo
    repeat' (first|refine X.O ?_|refine X.A ?_|refine X.B ?_|refine X.C ?_|refine X.D ?_|refine X.E ?_|refine X.F ?_|refine X.G ?_|refine X.H ?_|refine X.I ?_|fail)
    refine ⟨_, ret1 rfl (by rfl), ?_⟩
    exact ⟨⟨to, oo, hAo⟩, hbl02.trans (Below.mono hbl6 (by omega))⟩
end Go.Proofs
/- The reference's table of cuts: l05Cuts, l03Find. -/
set_option maxRecDepth 8000
namespace Go.Rk
open Go.Fw Go.Proofs
theorem findT_none {t : List Int} (h : ∀ i (hi : i < (treesTo 6).length), (treesTo 6)[i] ≠ t) : findT t = 0 := by
  unfold findT
  rw [if_neg]
  intro hm
  obtain ⟨i, hi, he⟩ := List.getElem_of_mem hm
  exact h i hi he
theorem findT_some {t : List Int} {i : Nat} (hi : i < (treesTo 6).length) (he : (treesTo 6)[i] = t) : findT t = i + 1 := by
  have hm : t ∈ treesTo 6 := by rw [← he]; exact List.getElem_mem hi
  unfold findT
  rw [if_pos hm]
  obtain ⟨hp, hg⟩ := placeT_get hm
  have h1 := placeT_pos t
  have hgp := hg hp
  rcases Nat.lt_trichotomy (placeT t - 1) i with h2 | h2 | h2
  · have := treesTo_sorted h2 hi
    rw [hgp, he, ord_cmpT.refl] at this
    omega
  · omega
  · have := treesTo_sorted h2 hp
    rw [hgp, he, ord_cmpT.refl] at this
    omega
end Go.Rk
namespace Go.Proofs
open Go Go.Fw Go.RowKit Go.Rk
set_option maxHeartbeats 1000000 in
theorem l05Cuts_any (f : Nat) {lo hi : Nat} {w : World} {v : Value} {t : List Int} (h : IS lo hi w v t) (ht : Lv t) (hf : t.length ≤ f) (h8 : t.length ≤ 8) :
    Does Tryz.prog 133 [v] w fun r w' => (∃ ts, Own3 w.heap.size 91 w' r ts ∧ CutA w' ts ((treeS f t).map cutF)) ∧ Below w.heap.size w w' := by
  obtain ⟨hok, ht0, ht1⟩ := treeS_ok f ht hf h8
  have hp := pow_256 (n := t.length) h8
  obtain ⟨htl1, htl2⟩ := tot_len hok
  obtain ⟨G, hG⟩ : ∃ G, treeS f t = G := ⟨_, rfl⟩
  rw [hG] at hok ht0 ht1 htl1 htl2 ⊢
  refine Does.enter Tryz.func133 Tryz.ntmps133 rfl (by rfl) ?_
  repeat' (first|refine X.O ?_|refine X.A ?_|refine X.B ?_|refine X.C ?_|refine X.D ?_|refine X.E ?_|refine X.F ?_|refine X.G ?_|refine X.H ?_|refine X.I ?_|fail)
  refine WL.call (l05Tree_any f h ht hf h8) ?_
  rintro v1 w1 ⟨⟨ts1, o1, hA1⟩, hbl1⟩
  have hz1 := hbl1.size
  rw [hG] at hA1
  have hl1 := hA1.1
  obtain ⟨a1, c1, hv1, _⟩ := o1.shape
  subst hv1
  refine WL.step (o_lit30 ?_)
  intro v2 w2 hown2 hbl2 hz2
  repeat' (first|refine X.O ?_|refine X.A ?_|refine X.B ?_|refine X.C ?_|refine X.D ?_|refine X.E ?_|refine X.F ?_|refine X.G ?_|refine X.H ?_|refine X.I ?_|fail)
  refine WP.loop (fun (s : Nat × Value) => [(3, .slice a1 ts1.length c1), (4, s.2), (5, .int .i64 (s.1 : Nat))])
    (fun s w3 => s.1 ≤ G.length ∧ (∃ to, Own3 w1.heap.size 91 w3 s.2 to ∧ CutA w3 to ((G.take s.1).map cutF)) ∧ Below w1.heap.size w1 w3)
    (fun s => G.length - s.1) (0, v2) ⟨rfl, rfl, rfl, trivial⟩ ⟨by dsimp only; omega, ⟨[], hown2, CutA.nil _⟩, hbl2⟩ ?_
  rintro ⟨i, vo⟩ w3 ⟨hi1, ⟨to, oo, hAo⟩, hbl3⟩
  dsimp only at hi1 oo hAo ⊢
  have hz3 := hbl3.size
  have hol : to.length = i := by rw [hAo.1, List.length_map, List.length_take]; omega
  repeat' (first|refine X.O ?_|refine X.A ?_|refine X.B ?_|refine X.C ?_|refine X.D ?_|refine X.E ?_|refine X.F ?_|refine X.G ?_|refine X.H ?_|refine X.I ?_|fail)
  refine WL.step (o_len3 (by rfl) ?_)
  repeat' (first|refine X.O ?_|refine X.A ?_|refine X.B ?_|refine X.C ?_|refine X.D ?_|refine X.E ?_|refine X.F ?_|refine X.G ?_|refine X.H ?_|refine X.I ?_|fail)
  first|refine X.J (fun _ => ?_) (fun _ => ?_)|refine X.L (fun _ => ?_) (fun _ => ?_)|refine X.M (fun _ => ?_) (fun _ => ?_)|refine X.R (fun _ => ?_) (fun _ => ?_)|fail
  · rename_i hlt
    have hli : i < G.length := by omega
    have hlit : i < ts1.length := by omega
    have hoki := hok _ (List.getElem_mem hli)
    have hst : (G.take (i + 1)).map cutF = (G.take i).map cutF ++ [cutF G[i]] := by rw [List.take_succ_eq_append_getElem hli, List.map_append]; rfl
    obtain ⟨⟨sC, sT, sN⟩, hxE⟩ : ∃ s, G[i] = s := ⟨_, rfl⟩
    obtain ⟨⟨sc, st, sn⟩, hsE⟩ : ∃ s, ts1[i] = s := ⟨_, rfl⟩
    have hgx : ts1[i]? = some (sc, st, sn) := by rw [List.getElem?_eq_getElem hlit, hsE]
    have hsj := hA1.2 i _ _ hgx (List.getElem?_eq_getElem hli)
    rw [hxE] at hsj hst hoki
    have hsn : sn = .int .i64 sN := hsj.2.2
    subst hsn
    have hlx := hoki.len h8
    dsimp only at hlx
    obtain ⟨ac, cc, hsc⟩ := hsj.1.shape
    obtain ⟨at2, ct2, hst2⟩ := hsj.2.1.shape
    dsimp only at hsc hst2
    subst hsc hst2
    have o13 := o1.below hbl3 (Nat.le_refl _)
    have hsj3 := hsj.tsame (TSame.below hbl3)
    repeat' (first|refine X.O ?_|refine X.A ?_|refine X.B ?_|refine X.C ?_|refine X.D ?_|refine X.E ?_|refine X.F ?_|refine X.G ?_|refine X.H ?_|refine X.I ?_|fail)
    refine WL.step (o_lit (us := []) (by rfl) (by rfl) rfl (by decide) one0 ?_)
    intro v4 w4 hown4 hbl4 hz4 _
    have o14 := o13.below hbl4 (Nat.le_refl _)
    have hsj4 := hsj3.tsame (TSame.below hbl4)
    repeat' (first|refine X.O ?_|refine X.A ?_|refine X.B ?_|refine X.C ?_|refine X.D ?_|refine X.E ?_|refine X.F ?_|refine X.G ?_|refine X.H ?_|refine X.I ?_|fail)
    refine WL.ixfld3 (j := i) (off := 1) o14 hgx (by rfl) ?_
    intro _ _
    repeat' (first|refine X.O ?_|refine X.A ?_|refine X.B ?_|refine X.C ?_|refine X.D ?_|refine X.E ?_|refine X.F ?_|refine X.G ?_|refine X.H ?_|refine X.I ?_|fail)
    refine WP.midE (fun l' x => ∃ v6, Agree l' [(3, .slice a1 ts1.length c1), (4, vo), (5, .int .i64 (i : Nat)), (6, v6)] ∧ (∃ lo6, Own lo6 2 x v6 (Ints (sT.headD []))) ∧ Below w3.heap.size w3 x) ?_ ?_
    · first|refine X.J (fun _ => ?_) (fun _ => ?_)|refine X.L (fun _ => ?_) (fun _ => ?_)|refine X.M (fun _ => ?_) (fun _ => ?_)|refine X.R (fun _ => ?_) (fun _ => ?_)|fail
      · rename_i hpos
        obtain ⟨lo6, vs6, ho6, hl6, hr6⟩ := hsj4.2.1
        dsimp only at ho6 hl6 hr6
        have hp6 : 0 < vs6.length := by omega
        have hpT : 0 < sT.length := by omega
        obtain ⟨lo7, ho7⟩ := hr6 0 _ _ (List.getElem?_eq_getElem hp6) (List.getElem?_eq_getElem hpT)
        have hS6 : SL (fun _ _ _ u x => u = x) 0 w4.heap.size w4 (.slice at2 sT.length ct2) vs6 := ho6.toSL rfl (Nat.zero_le _) (fun k hk => (ho6.block k hk).2) (Nat.le_refl _) fun i u x hu hx => by rw [hu] at hx; simpa using hx
        have hhd : sT.headD [] = sT[0] := by
          cases sT with
          | nil => simp at hpT
          | cons x r => rfl
        have hl0 := hlx.2.2.2.1 _ (List.getElem_mem hpT)
        repeat' (first|refine X.O ?_|refine X.A ?_|refine X.B ?_|refine X.C ?_|refine X.D ?_|refine X.E ?_|refine X.F ?_|refine X.G ?_|refine X.H ?_|refine X.I ?_|fail)
        refine WL.ixfld3 (j := i) (off := 1) o14 hgx (by rfl) ?_
        intro _ _
        refine WL.ixload (j := 0) hS6 (List.getElem?_eq_getElem hp6) ?_
        rintro q5 _ rfl
        refine WL.call (l01Own_grow (ho7.toIS (Nat.zero_le _)) hl0) ?_
        intro v5 w5 hN5
        repeat' (first|refine X.O ?_|refine X.A ?_|refine X.B ?_|refine X.C ?_|refine X.D ?_|refine X.E ?_|refine X.F ?_|refine X.G ?_|refine X.H ?_|refine X.I ?_|fail)
        exact ⟨v5, ⟨rfl, rfl, rfl, rfl, trivial⟩, ⟨_, by rw [hhd]; exact hN5.1⟩, hbl4.trans (Below.mono hN5.2 (by omega))⟩
      · rename_i hpos
        have hT0 : sT = [] := List.eq_nil_of_length_eq_zero (by omega)
        subst hT0
        repeat' (first|refine X.O ?_|refine X.A ?_|refine X.B ?_|refine X.C ?_|refine X.D ?_|refine X.E ?_|refine X.F ?_|refine X.G ?_|refine X.H ?_|refine X.I ?_|fail)
        exact ⟨v4, ⟨rfl, rfl, rfl, rfl, trivial⟩, ⟨_, hown4⟩, hbl4⟩
    · rintro l' w6 ⟨v6, hag, ⟨lo6, ho6⟩, hbl36⟩
      refine WP.frame _ hag ?_
      clear hag
      have hz6 := hbl36.size
      have hbl16 : Below w1.heap.size w1 w6 := hbl3.trans (Below.mono hbl36 (by omega))
      have o16 := o13.below hbl36 (Nat.le_refl _)
      have hsj6 := hsj3.tsame (TSame.below hbl36)
      have oo6 := oo.below hbl36 (Nat.le_refl _)
      have hAo6 := hAo.tsame (TSame.below hbl36)
      repeat' (first|refine X.O ?_|refine X.A ?_|refine X.B ?_|refine X.C ?_|refine X.D ?_|refine X.E ?_|refine X.F ?_|refine X.G ?_|refine X.H ?_|refine X.I ?_|fail)
      refine WP.drawn (fun w' => Below w1.heap.size w1 w') [(0, true), (1, true), (2, true), (3, true), (4, true), (5, true), (7, true), (8, true), (9, true), (10, true), (11, true), (12, true), (6, false), (13, false), (14, false), (15, false), (16, true)] (by kernel_rfl) mixed ?_
      intro w7 hs7
      have hz7 := hs7.size
      have hT7 : Below w6.heap.size w6 w7 := hs7.below _
      have hS7 : Below w1.heap.size w1 w7 := hbl16.trans (Below.mono hT7 (by omega))
      have hAS : ∀ w', Below w1.heap.size w1 w' → Own3 w.heap.size 111 w' (.slice a1 ts1.length c1) ts1 := fun w' h => o1.below h (Nat.le_refl _)
      repeat' (first|refine X.U rfl ?_|refine X.V rfl ?_|refine X.W rfl ?_|refine X.Y rfl ?_|refine X.Z rfl ?_|refine WS.nil ?_|fail)
      refine WS.ixfld3 (j := i) (off := 0) rfl rfl rfl hAS hgx (by rfl) hS7 ?_
      intro _ _
      repeat' (first|refine X.U rfl ?_|refine X.V rfl ?_|refine X.W rfl ?_|refine X.Y rfl ?_|refine X.Z rfl ?_|refine WS.nil ?_|fail)
      refine WS.ixfld3 (j := i) (off := 2) rfl rfl rfl hAS hgx (by rfl) hS7 ?_
      intro _ _
      have hsj7 := hsj6.tsame (TSame.below hT7)
      refine WS.call rfl (l01Own2_any hsj7.1.rd hlx.2.2.1 (by dsimp only; omega)) ?_
      rintro v8 w8 ⟨vs8, hR8, hbl8⟩
      have hz8 := hbl8.size
      have hT8 := hT7.trans (Below.mono hbl8 (by omega))
      have hS8 := hS7.trans (Below.mono hbl8 (by omega))
      refine ⟨hS8, ?_⟩
      have ho8 := ho6.below hT8 (Nat.le_refl _)
      obtain ⟨a8, c8, hv8⟩ := hR8.roo.shape
      obtain ⟨a6, c6, hv6, _⟩ := ho8.shape
      dsimp only at hv8
      subst hv8 hv6
      have hcr : CutR w8 (.slice a8 sC.length c8, .slice a6 (Ints (sT.headD [])).length c6, .int .i64 sN) (cutF (sC, sT, sN)) := ⟨hR8.roo, ⟨_, ho8⟩, rfl⟩
      refine WS.op rfl (o_build (us := [.slice a8 sC.length c8, .slice a6 (Ints (sT.headD [])).length c6, .int .i64 sN]) (cells := [.slice a8 sC.length c8, .slice a6 (Ints (sT.headD [])).length c6, .int .i64 sN]) (by rfl) (by rfl) ?_)
      refine ⟨hS8, ?_⟩
      refine WS.op rfl (o_lit31 (tr := (.slice a8 sC.length c8, .slice a6 (Ints (sT.headD [])).length c6, .int .i64 sN)) (by rfl) ?_)
      intro v9 w9 hown9 hbl9 hz9
      have hT9 := hT8.trans (Below.mono hbl9 (by omega))
      have hS9 := hS8.trans (Below.mono hbl9 (by omega))
      refine ⟨hS9, ?_⟩
      have oo9 := oo6.below hT9 (Nat.le_refl _)
      refine WS.op rfl (o_append3 (by rfl) (by rfl) oo9 hown9 hcr.one (by unfold maxLen; omega) (by omega) (by omega) ?_)
      intro v10 w10 hap
      have hS10 : Below w1.heap.size w1 w10 := hS9.trans hap.bel
      refine ⟨hS10, ?_⟩
      have hts := hap.tsame (e1 := 22) (e2 := 2) oo9 (by decide) (by decide)
      repeat' (first|refine X.U rfl ?_|refine X.V rfl ?_|refine X.W rfl ?_|refine X.Y rfl ?_|refine X.Z rfl ?_|refine WS.nil ?_|fail)
      repeat' (first|refine X.O ?_|refine X.A ?_|refine X.B ?_|refine X.C ?_|refine X.D ?_|refine X.E ?_|refine X.F ?_|refine X.G ?_|refine X.H ?_|refine X.I ?_|fail)
      exact ⟨(i + 1, v10), ⟨rfl, rfl, (by first|rfl|exact X.T (by omega)), trivial⟩, ⟨by dsimp only; omega, ⟨_, hap.own, by
        rw [hst]
        exact ((hAo6.tsame (TSame.below hT9)).tsame hts).snoc ((hcr.tsame (TSame.below hbl9)).tsame hts)⟩, hS10⟩, by dsimp only; omega⟩
  · rename_i hge
    have hie : i = G.length := by omega
    subst hie
    rw [List.take_length] at hAo
    repeat' (first|refine X.O ?_|refine X.A ?_|refine X.B ?_|refine X.C ?_|refine X.D ?_|refine X.E ?_|refine X.F ?_|refine X.G ?_|refine X.H ?_|refine X.I ?_|fail)
    refine ⟨_, ret1 rfl (by rfl), ?_⟩
    exact ⟨⟨to, oo.lower (by omega), hAo⟩, hbl1.trans (Below.mono hbl3 (by omega))⟩
theorem l03Find_any {lo hi lo' hi' : Nat} {w : World} {v v' : Value} {t : List Int} (h : ISS lo hi w v (treesTo 6)) (h' : IS lo' hi' w v' t) :
    Does Tryz.prog 135 [v, v'] w fun r w' => r = .int .i64 ((findT t : Nat) - 1) ∧ Still w w' := by
  have htl := treesTo_len
  obtain ⟨a, c, hv⟩ := h.shape
  rw [htl] at hv
  subst hv
  refine Does.enter Tryz.func135 Tryz.ntmps135 rfl (by rfl) ?_
  repeat' (first|refine X.O ?_|refine X.A ?_|refine X.B ?_|refine X.C ?_|refine X.D ?_|refine X.E ?_|refine X.F ?_|refine X.G ?_|refine X.H ?_|refine X.I ?_|fail)
  refine WP.loop (fun (i : Nat) => [(0, .slice a 37 c), (1, v'), (5, .int .i64 (i : Nat))])
    (fun i w2 => i ≤ 37 ∧ (∀ j (hj : j < (treesTo 6).length), j < i → (treesTo 6)[j] ≠ t) ∧ Still w w2)
    (fun i => 37 - i) 0 ⟨rfl, rfl, rfl, trivial⟩ ⟨by omega, fun j _ hj => absurd hj (by omega), Still.refl _⟩ ?_
  rintro i w2 ⟨hi1, hne, hs2⟩
  repeat' (first|refine X.O ?_|refine X.A ?_|refine X.B ?_|refine X.C ?_|refine X.D ?_|refine X.E ?_|refine X.F ?_|refine X.G ?_|refine X.H ?_|refine X.I ?_|fail)
  first|refine X.J (fun _ => ?_) (fun _ => ?_)|refine X.L (fun _ => ?_) (fun _ => ?_)|refine X.M (fun _ => ?_) (fun _ => ?_)|refine X.R (fun _ => ?_) (fun _ => ?_)|fail
  · rename_i hlt
    have hli : i < (treesTo 6).length := by omega
    repeat' (first|refine X.O ?_|refine X.A ?_|refine X.B ?_|refine X.C ?_|refine X.D ?_|refine X.E ?_|refine X.F ?_|refine X.G ?_|refine X.H ?_|refine X.I ?_|fail)
    refine WL.ixload (j := i) (h.still IS.stable hs2) (List.getElem?_eq_getElem hli) ?_
    intro p u hu
    repeat' (first|refine X.O ?_|refine X.A ?_|refine X.B ?_|refine X.C ?_|refine X.D ?_|refine X.E ?_|refine X.F ?_|refine X.G ?_|refine X.H ?_|refine X.I ?_|fail)
    refine WL.call (l01Same_any hu (h'.still RI.stable hs2)) ?_
    rintro _ w3 ⟨rfl, hs3⟩
    repeat' (first|refine X.O ?_|refine X.A ?_|refine X.B ?_|refine X.C ?_|refine X.D ?_|refine X.E ?_|refine X.F ?_|refine X.G ?_|refine X.H ?_|refine X.I ?_|fail)
    by_cases he : (treesTo 6)[i] = t
    · rw [decide_eq_true he]
      repeat' (first|refine X.O ?_|refine X.A ?_|refine X.B ?_|refine X.C ?_|refine X.D ?_|refine X.E ?_|refine X.F ?_|refine X.G ?_|refine X.H ?_|refine X.I ?_|fail)
      refine ⟨_, ret1 rfl (by rfl), ?_⟩
      exact ⟨congrArg (Value.int .i64) (by rw [findT_some hli he]; omega), hs2.trans hs3⟩
    · rw [decide_eq_false he]
      repeat' (first|refine X.O ?_|refine X.A ?_|refine X.B ?_|refine X.C ?_|refine X.D ?_|refine X.E ?_|refine X.F ?_|refine X.G ?_|refine X.H ?_|refine X.I ?_|fail)
      exact ⟨i + 1, ⟨rfl, rfl, (by first|rfl|exact X.T (by omega)), trivial⟩, ⟨by omega, fun j hj hji => by
        rcases Nat.lt_or_ge j i with h1 | h1
        · exact hne j hj h1
        · have : j = i := by omega
          subst this; exact he, hs2.trans hs3⟩, by omega⟩
  · rename_i hge
    have hie : i = 37 := by omega
    repeat' (first|refine X.O ?_|refine X.A ?_|refine X.B ?_|refine X.C ?_|refine X.D ?_|refine X.E ?_|refine X.F ?_|refine X.G ?_|refine X.H ?_|refine X.I ?_|fail)
    refine ⟨_, ret1 rfl (by rfl), ?_⟩
    exact ⟨congrArg (Value.int .i64) (by rw [findT_none (t := t) fun j hj => hne j hj (by omega)]; rfl), hs2⟩
end Go.Proofs
/- The reference's table of cuts: l07Cuts. -/
set_option maxRecDepth 8000
namespace Go.Fw
open Go Go.RowKit Go.Rk
section
variable {P : Program} {N : Nat} {Q : Exit → Fr → World → Prop} {S : World → Prop} {l : Fr} {w : World} {ops : Array Oper} {ks : List Nat} {s : Tr}
/-- x[i].f of a slice of structs, where several orders are walked. -/
theorem WV.ixfld3 {m m' m2 : Nat} {t t2 s' e : TypeId} {z : Array Value} {bytes f off : Nat} [SliceTy3 P t e z bytes] [FieldTy P s' f off] [CellTy P t2] {x y : Operand} {kk : IntKind} {i : Int} {j : Nat} {d1 d2 d3 lo : Nat} {e' : TypeId} {v u : Value} {ts : List Tri} {tr : Tri} {ty1 ty2 ty3 : TypeId} {pos1 pos2 pos3 : String} {af1 af2 af3 : Array Edge} {x2 x3 : Operand}
    (hi1 : ops[m]? = some ⟨some d1, .indexAddr t x y, ty1, pos1, af1, none⟩) (hi2 : ops[m']? = some ⟨some d2, .fieldAddr s' x2 f, ty2, pos2, af2, none⟩) (hi3 : ops[m2]? = some ⟨some d3, .load t2 x3, ty3, pos3, af3, none⟩)
    (hs : ∀ w', S w' → Own3 lo e' w' v ts) (ha : ts[j]? = some tr) (hf : tr.cells[off]? = some u) (hS : S w)
    (k : ∀ p q, WV P N ops Q S ks s ((d3, u) :: (d2, q) :: (d1, p) :: l) w) (hx : ev l x = some v := by rfl) (hy : ev l y = some (.int kk i) := by rfl) (hij : i = (j : Int) := by first | rfl | omega) (h2 : x2 = .tmp d1 := by rfl) (h3 : x3 = .tmp d2 := by rfl)
    (hd1 : Nat.blt d1 N = true := by rfl) (hd2 : Nat.blt d2 N = true := by rfl) (hd3 : Nat.blt d3 N = true := by rfl) :
    WV P N ops Q S ks (.q m (.q m' (.q m2 s))) l w := by
  subst h2 h3
  obtain ⟨g, c, rfl, _, _, _, _, _⟩ := (hs w hS).place ha
  have hlt := (List.getElem?_eq_some_iff.1 ha).1
  subst hij
  refine WV.q hi1 (q_ix3 hx hy (by omega) (by omega) rfl hd1) hS ?_
  rw [Nat.zero_add, Int.toNat_natCast]
  refine WV.q hi2 (q_field (look_cons_self _ _ _) rfl hd2) hS ?_
  have e1 : (⟨g, j * 3, none⟩ : Addr).add off = ⟨g, j * 3 + off, none⟩ := by unfold Addr.add; split <;> simp_all
  rw [e1]
  refine WV.q hi3 (q_load (look_cons_self _ _ _) (fun w' hw' => ?_) rfl hd3) hS (k _ _)
  obtain ⟨g', c', hv', _, _, hcell, _, _⟩ := (hs w' hw').place ha
  simp only [Value.slice.injEq, Option.some.injEq, Addr.mk.injEq] at hv'
  obtain ⟨⟨rfl, _⟩, _, _⟩ := hv'
  exact hcell off u hf
end
theorem MTab.below {e4 e3 e : TypeId} {lo : Nat} {w w' : World} {v : Value} {tab : List (List RowD)} (h : MTab e4 e3 e lo w v tab) (hb : Below w.heap.size w w') : MTab e4 e3 e lo w' v tab := by
  obtain ⟨vs, h1, h2, h3⟩ := h
  exact ⟨vs, h1.below hb (Nat.le_refl _), h2, fun i u rs hu hr => (h3 i u rs hu hr).tsame (TSame.below hb)⟩
theorem MRow.one {e3 e : TypeId} {w : World} {v : Value} {rs : List RowD} (h : MRow e3 e w v rs) : v.oneCell' = true := by
  obtain ⟨a, c, hv⟩ := h.rc.shape
  rw [hv]; rfl
/-- One row more, once the outer row has been appended to. -/
theorem MTab.snoc {e4 e3 e lo lo' : Nat} {w w' : World} {v v' u : Value} {vs : List Value} {tab : List (List RowD)} {rs : List RowD} (ho : Own lo e4 w v vs) (hl : vs.length = tab.length) (hr : ∀ (i : Nat) u rs, vs[i]? = some u → tab[i]? = some rs → MRow e3 e w u rs)
    (hu : MRow e3 e w u rs) (hown : Own lo' e4 w' v' (vs ++ [u])) (hz : w.heap.size ≤ w'.heap.size) (hf : ∀ k, k < w.heap.size → v.ownBlock ≠ some k → w'.heap[k]? = w.heap[k]?) (h1 : e4 ≠ e3) (h2 : e4 ≠ e) : MTab e4 e3 e lo' w' v' (tab ++ [rs]) := by
  have hts : TSame e3 e w w' := ⟨hz, fun b cur tt hcur htt => hf b (Array.getElem?_eq_some_iff.1 hcur).1 fun e' => by
    obtain ⟨c2, hc2⟩ := ho.elem e'
    rw [hc2] at hcur
    simp only [Option.some.injEq, Obj.cells.injEq] at hcur
    rcases htt with rfl | rfl
    · exact h1 hcur.2.1
    · exact h2 hcur.2.1⟩
  refine ⟨vs ++ [u], hown, by simp [hl], fun b u' rs' hu' hrs' => ?_⟩
  rw [List.getElem?_append] at hu' hrs'
  rw [← hl] at hrs'
  split at hu'
  · rename_i hi; rw [if_pos hi] at hrs'; exact (hr b u' rs' hu' hrs').tsame hts
  · rename_i hi
    rw [if_neg hi] at hrs'
    rcases Nat.eq_zero_or_pos (b - vs.length) with h0 | h0
    · rw [h0] at hu' hrs'; simp at hu' hrs'; subst hu' hrs'; exact hu.tsame hts
    · rw [List.getElem?_eq_none (by simp; omega)] at hu'; cases hu'
end Go.Fw
namespace Go.Rk
open Go.Fw Go.Proofs
def mapCutS (c : CutD) : RowD := (c.2.2, c.1.map findT, findT c.2.1)
end Go.Rk
namespace Go.Proofs
open Go Go.Fw Go.RowKit Go.Rk
instance : SliceTy3 Tryz.prog 100 102 #[.int .i64 0, .slice none 0 0, .int .i64 0] 40 := ⟨by kernel_rfl, by kernel_rfl, ⟨_, _, _, rfl⟩⟩
/-- The reference's table: a row for the empty tree ahead of the others. -/
def specTab : List (List RowD) := [] :: cutLit
set_option maxHeartbeats 4000000 in
theorem l07Cuts_any (w : World) : Does Tryz.prog 89 [] w fun r w' => TB 0 w'.heap.size w' r specTab ∧ Below w.heap.size w w' := by
  have htl := treesTo_len
  have hlit := specLit_eq
  have hll : cutLit.length = 37 := by rw [← hlit, List.length_map, htl]
  refine Does.enter Tryz.func89 Tryz.ntmps89 rfl (by rfl) ?_
  repeat' (first|refine X.O ?_|refine X.A ?_|refine X.B ?_|refine X.C ?_|refine X.D ?_|refine X.E ?_|refine X.F ?_|refine X.G ?_|refine X.H ?_|refine X.I ?_|fail)
  refine WL.call (l03All_any 6 (by omega) _) ?_
  rintro v1 w1 ⟨⟨vs1, o1⟩, hbl1⟩
  have hz1 := hbl1.size
  have hT1 := o1.rd
  obtain ⟨at1, ct, hvt⟩ := hT1.shape
  rw [htl] at hvt
  subst hvt
  repeat' (first|refine X.O ?_|refine X.A ?_|refine X.B ?_|refine X.C ?_|refine X.D ?_|refine X.E ?_|refine X.F ?_|refine X.G ?_|refine X.H ?_|refine X.I ?_|fail)
  refine WL.step (o_lit30 ?_)
  intro v2 w2 hown2 hbl2 hz2
  obtain ⟨a2, c2, hv2, _⟩ := hown2.shape
  have hrow2 : MRow 102 2 w2 v2 [] := ⟨_, [], hown2, MCs.nil _ _⟩
  refine WL.step (o_lit (us := [v2]) (by rfl) (by rfl) rfl (by decide) (one1 hrow2.one) ?_)
  intro v3 w3 hown3 hbl3 hz3 _
  have hbl13 : Below w1.heap.size w1 w3 := hbl2.trans (Below.mono hbl3 (by omega))
  have hM3 : MTab 100 102 2 w1.heap.size w3 v3 ([] :: cutLit.take 0) := ⟨[v2], hown3.lower (by omega), rfl, fun i u rs hu hrs => by
    match i, hu, hrs with
    | 0, hu, hrs => simp at hu hrs; subst hu hrs; exact hrow2.tsame (TSame.below hbl3)⟩
  repeat' (first|refine X.O ?_|refine X.A ?_|refine X.B ?_|refine X.C ?_|refine X.D ?_|refine X.E ?_|refine X.F ?_|refine X.G ?_|refine X.H ?_|refine X.I ?_|fail)
  refine WP.loop (fun (s : Nat × Value) => [(1, .slice at1 37 ct), (2, s.2), (3, .int .i64 (s.1 : Nat))])
    (fun s w4 => s.1 ≤ 37 ∧ MTab 100 102 2 w1.heap.size w4 s.2 ([] :: cutLit.take s.1) ∧ Below w1.heap.size w1 w4)
    (fun s => 37 - s.1) (0, v3) ⟨rfl, rfl, rfl, trivial⟩ ⟨by dsimp only; omega, hM3, hbl13⟩ ?_
  rintro ⟨i, vo⟩ w4 ⟨hi1, hM4, hbl4⟩
  dsimp only at hi1 hM4 ⊢
  have hz4 := hbl4.size
  have hT4 := hT1.below IS.stable hbl4 (Nat.le_refl _)
  repeat' (first|refine X.O ?_|refine X.A ?_|refine X.B ?_|refine X.C ?_|refine X.D ?_|refine X.E ?_|refine X.F ?_|refine X.G ?_|refine X.H ?_|refine X.I ?_|fail)
  first|refine X.J (fun _ => ?_) (fun _ => ?_)|refine X.L (fun _ => ?_) (fun _ => ?_)|refine X.M (fun _ => ?_) (fun _ => ?_)|refine X.R (fun _ => ?_) (fun _ => ?_)|fail
  · rename_i hlt
    have hli : i < (treesTo 6).length := by omega
    have hlc : i < cutLit.length := by omega
    have hmem : (treesTo 6)[i] ∈ treesTo 6 := List.getElem_mem hli
    have hok := treesTo_ok (n := 6) (by omega) _ hmem
    have hrow : (treeS 7 (treesTo 6)[i]).map rowS = cutLit[i] := by
      have : cutLit[i]? = some ((treeS 7 (treesTo 6)[i]).map rowS) := by rw [← hlit, List.getElem?_map, List.getElem?_eq_getElem hli]; rfl
      rw [List.getElem?_eq_getElem hlc] at this
      exact (Option.some.inj this).symm
    obtain ⟨t, ht⟩ : ∃ t, (treesTo 6)[i] = t := ⟨_, rfl⟩
    rw [ht] at hok hrow
    obtain ⟨hgo, hg0, hg1⟩ := treeS_ok 7 hok.1 (by omega) (by omega)
    have hp256 := pow_256 (n := t.length) (by omega)
    obtain ⟨hgl, hgn⟩ := tot_len hgo
    repeat' (first|refine X.O ?_|refine X.A ?_|refine X.B ?_|refine X.C ?_|refine X.D ?_|refine X.E ?_|refine X.F ?_|refine X.G ?_|refine X.H ?_|refine X.I ?_|fail)
    refine WL.ixload (j := i) hT4 (List.getElem?_eq_getElem hli) ?_
    intro p1 u hu
    replace hu : IS w.heap.size w1.heap.size w4 u t := by rw [← ht]; exact hu
    repeat' (first|refine X.O ?_|refine X.A ?_|refine X.B ?_|refine X.C ?_|refine X.D ?_|refine X.E ?_|refine X.F ?_|refine X.G ?_|refine X.H ?_|refine X.I ?_|fail)
    refine WL.call (l05Cuts_any 7 hu hok.1 (by omega) (by omega)) ?_
    rintro v5 w5 ⟨⟨ts5, o5, hA5⟩, hbl5⟩
    have hz5 := hbl5.size
    obtain ⟨G, hG⟩ : ∃ G, treeS 7 t = G := ⟨_, rfl⟩
    rw [hG] at hA5 hrow hgo hg0 hg1 hgl hgn
    have hl5 := hA5.1
    rw [List.length_map] at hl5
    obtain ⟨a5, c5, hv5, _⟩ := o5.shape
    subst hv5
    refine WL.step (o_lit30 ?_)
    intro v6 w6 hown6 hbl6 hz6
    repeat' (first|refine X.O ?_|refine X.A ?_|refine X.B ?_|refine X.C ?_|refine X.D ?_|refine X.E ?_|refine X.F ?_|refine X.G ?_|refine X.H ?_|refine X.I ?_|fail)
    refine WP.loop (fun (s : Nat × Value) => [(1, .slice at1 37 ct), (2, vo), (3, .int .i64 (i : Nat)), (4, .slice a5 ts5.length c5), (5, s.2), (6, .int .i64 (s.1 : Nat))])
      (fun s w7 => s.1 ≤ G.length ∧ (∃ tl, Own3 w5.heap.size 102 w7 s.2 tl ∧ MCs 2 w7 tl ((G.take s.1).map rowS)) ∧ Below w5.heap.size w5 w7)
      (fun s => G.length - s.1) (0, v6) ⟨rfl, rfl, rfl, rfl, rfl, rfl, trivial⟩ ⟨by dsimp only; omega, ⟨[], hown6, MCs.nil _ _⟩, hbl6⟩ ?_
    rintro ⟨j, vl⟩ w7 ⟨hj1, ⟨tl, ol, hMl⟩, hbl7⟩
    dsimp only at hj1 ol hMl ⊢
    have hz7 := hbl7.size
    have hbl47 : Below w4.heap.size w4 w7 := hbl5.trans (Below.mono hbl7 (by omega))
    have hlen : tl.length = j := by rw [hMl.1, List.length_map, List.length_take]; omega
    repeat' (first|refine X.O ?_|refine X.A ?_|refine X.B ?_|refine X.C ?_|refine X.D ?_|refine X.E ?_|refine X.F ?_|refine X.G ?_|refine X.H ?_|refine X.I ?_|fail)
    refine WL.step (o_len3 (by rfl) ?_)
    repeat' (first|refine X.O ?_|refine X.A ?_|refine X.B ?_|refine X.C ?_|refine X.D ?_|refine X.E ?_|refine X.F ?_|refine X.G ?_|refine X.H ?_|refine X.I ?_|fail)
    first|refine X.J (fun _ => ?_) (fun _ => ?_)|refine X.L (fun _ => ?_) (fun _ => ?_)|refine X.M (fun _ => ?_) (fun _ => ?_)|refine X.R (fun _ => ?_) (fun _ => ?_)|fail
    · rename_i hltj
      have hlj : j < G.length := by omega
      have hljt : j < ts5.length := by omega
      have hgoj := hgo _ (List.getElem_mem hlj)
      have hgnj := hgn _ (List.getElem_mem hlj)
      have hst : (G.take (j + 1)).map rowS = (G.take j).map rowS ++ [rowS G[j]] := by rw [List.take_succ_eq_append_getElem hlj, List.map_append]; rfl
      obtain ⟨⟨cc0, ct0, cn0⟩, hsE⟩ : ∃ s, ts5[j] = s := ⟨_, rfl⟩
      have hgx : ts5[j]? = some (cc0, ct0, cn0) := by rw [List.getElem?_eq_getElem hljt, hsE]
      have hsj := hA5.2 j _ _ hgx (show (G.map cutF)[j]? = some (cutF G[j]) by rw [List.getElem?_map, List.getElem?_eq_getElem hlj]; rfl)
      have hlx := hgoj.len (by omega)
      have hpos := hgoj.pos
      have hrs : rowS G[j] = mapCutS (cutF G[j]) := rfl
      have hcn : (cutF G[j]).2.2 = G[j].2.2 := rfl
      have hcc : (cutF G[j]).1 = G[j].1 := rfl
      obtain ⟨⟨cC, cT, cN⟩, hxE⟩ : ∃ s, cutF G[j] = s := ⟨_, rfl⟩
      rw [hxE] at hsj hrs hcn hcc
      rw [hrs] at hst
      dsimp only at hcn hcc
      rw [← hcn] at hgnj hpos
      rw [← hcc] at hlx
      have hcl := hlx.1
      have hnm : nm cN = cN := by unfold nm; omega
      have hse : cn0 = .int .i64 cN := hsj.2.2
      subst hse
      obtain ⟨ac, cc, hsc⟩ := hsj.1.shape
      dsimp only at hsc
      subst hsc
      obtain ⟨lot, hot⟩ := hsj.2.1
      dsimp only at hot
      have hR5 : ISS 0 w5.heap.size w5 (.slice ac cC.length cc) cC := hsj.1.rd
      have htI := hot.toIS (Nat.zero_le _)
      have hf38 : ∀ t, findT t ≤ 37 := fun t => by
        unfold findT
        split
        · rename_i hm; exact placeT_le hm
        · omega
      have hft := hf38 cT
      repeat' (first|refine X.O ?_|refine X.A ?_|refine X.B ?_|refine X.C ?_|refine X.D ?_|refine X.E ?_|refine X.F ?_|refine X.G ?_|refine X.H ?_|refine X.I ?_|fail)
      refine WP.midE (fun l' x => ∃ k, Agree l' [(1, .slice at1 37 ct), (2, vo), (3, .int .i64 (i : Nat)), (4, .slice a5 ts5.length c5), (5, vl), (6, .int .i64 (j : Nat)), (7, .pointer (some ⟨k, 0, none⟩))] ∧ Blk x k [.int .i64 cN, .slice none 0 0, .int .i64 (findT cT : Nat)] 102 ∧ w7.heap.size ≤ k ∧ Below w7.heap.size w7 x) ?_ ?_
      · refine WP.forkedL (fun w' => Below w7.heap.size w7 w') [] (.q 0 (.q 1 (.q 2 (.q 3 (.q 4 (.q 6 (.q 7 (.q 8 (.q 9 (.q 10 (.q 11 (.two 5 (.two 12 (.q 13 (.two 14 (.o 15 (.o 16 .nil)) 15 (.o 14 (.o 16 .nil)))) 15 (.o 12 (.q 13 (.o 14 (.o 16 .nil))))) 15 (.o 5 (.o 12 (.q 13 (.o 14 (.o 16 .nil))))))))))))))))) (by kernel_rfl) mixed ?_
        intro w8 hs8
        have hz8 := hs8.size
        have hS8 : Below w7.heap.size w7 w8 := hs8.below _
        have hAS : ∀ w', Below w7.heap.size w7 w' → Own3 w4.heap.size 91 w' (.slice a5 ts5.length c5) ts5 := fun w' h => (o5.below hbl7 (Nat.le_refl _)).below h (Nat.le_refl _)
        have hTS : ∀ w', Below w7.heap.size w7 w' → ISS w.heap.size w1.heap.size w' (.slice at1 37 ct) (treesTo 6) := fun w' h => (hT4.below IS.stable hbl47 (by omega)).below IS.stable h (by omega)
        have htS : ∀ w', Below w7.heap.size w7 w' → IS 0 w5.heap.size w' ct0 cT := fun w' h => (htI.below RI.stable hbl7 (Nat.le_refl _)).below RI.stable h (by omega)
        refine WV.q rfl (q_s (by rfl)) hS8 ?_
        refine WV.q rfl (q_s (by rfl)) hS8 ?_
        refine WV.ixfld3 (j := j) (off := 2) rfl rfl rfl hAS hgx (by rfl) hS8 ?_
        intro _ _
        refine WV.q rfl (q_s (by rfl)) hS8 ?_
        refine WV.q rfl (q_s (by rfl)) hS8 ?_
        refine WV.q rfl (q_s (by rfl)) hS8 ?_
        refine WV.ixfld3 (j := j) (off := 1) rfl rfl rfl hAS hgx (by rfl) hS8 ?_
        intro _ _
        have hadd : ((findT cT : Nat) : Int) - 1 + 1 = (findT cT : Nat) := by omega
        have fin : ∀ (l' : Fr) (x : World) (k : Nat), Blk x k [.int .i64 0, .slice none 0 0, .int .i64 0] 102 → w7.heap.size ≤ k → Below w7.heap.size w7 x → ∀ x1, Blk x1 k [.int .i64 cN, .slice none 0 0, .int .i64 (findT cT : Nat)] 102 → But k x x1 → w7.heap.size ≤ k ∧ Below w7.heap.size w7 x1 := fun l' x k hb hk hbl x1 hb1 hbut => ⟨hk, hbl.trans (hbut.below hk)⟩
        have hone : ∀ u ∈ [Value.int .i64 cN, .slice none 0 0, .int .i64 (findT cT : Nat)], u.oneCell' = true := fun x hx => by
          simp only [List.mem_cons, List.not_mem_nil, or_false] at hx
          rcases hx with rfl | rfl | rfl <;> rfl
        refine WV.two rfl rfl (o_call (l01Mod_any _ _) ?_) (o_alloc ?_)
        · rintro _ _ ⟨rfl, rfl⟩
          rw [hnm]
          refine ⟨hS8, ?_⟩
          refine WV.two rfl rfl (o_call (l03Find_any (hTS _ hS8) (htS _ hS8)) ?_) (o_alloc ?_)
          · rintro _ wa ⟨rfl, hsa⟩
            have hSa := hS8.trans (hsa.below w7.heap.size)
            refine ⟨hSa, ?_⟩
            refine WV.q rfl (q_add (by rfl) (by rfl) (by unfold InI; omega)) hSa ?_
            rw [hadd]
            refine WV.two rfl rfl (o_build (us := [.int .i64 cN, .int .i64 (findT cT : Nat)]) (cells := [.int .i64 cN, .slice none 0 0, .int .i64 (findT cT : Nat)]) (by rfl) (by rfl) ?_) (o_alloc ?_)
            · refine ⟨hSa, ?_⟩
              refine WV.o rfl (o_alloc ?_)
              intro wb hbb hblb hzb
              have hSb := hSa.trans (Below.mono hblb hSa.size)
              refine ⟨hSb, ?_⟩
              refine WV.o rfl (o_storeS (vs := [.int .i64 cN, .slice none 0 0, .int .i64 (findT cT : Nat)]) (by rfl) (by rfl) hbb (by rfl) (by rfl) hone ?_)
              intro wc hbc hbutc
              have hf := fin [] _ _ hbb hSa.size hSb _ hbc hbutc
              refine ⟨hf.2, WV.nil (thenN ?_)⟩
              exact ⟨_, ⟨rfl, rfl, rfl, rfl, rfl, rfl, rfl, trivial⟩, hbc, hf⟩
            · intro wb hbb hblb hzb
              have hSb := hSa.trans (Below.mono hblb hSa.size)
              refine ⟨hSb, ?_⟩
              refine WV.o rfl (o_build (us := [.int .i64 cN, .int .i64 (findT cT : Nat)]) (cells := [.int .i64 cN, .slice none 0 0, .int .i64 (findT cT : Nat)]) (by rfl) (by rfl) ?_)
              refine ⟨hSb, ?_⟩
              refine WV.o rfl (o_storeS (vs := [.int .i64 cN, .slice none 0 0, .int .i64 (findT cT : Nat)]) (by rfl) (by rfl) hbb (by rfl) (by rfl) hone ?_)
              intro wc hbc hbutc
              have hf := fin [] _ _ hbb hSa.size hSb _ hbc hbutc
              refine ⟨hf.2, WV.nil (thenN ?_)⟩
              exact ⟨_, ⟨rfl, rfl, rfl, rfl, rfl, rfl, rfl, trivial⟩, hbc, hf⟩
          · intro wb hbb hblb hzb
            have hSb := hS8.trans (Below.mono hblb hS8.size)
            refine ⟨hSb, ?_⟩
            refine WV.o rfl (o_call (l03Find_any (hTS _ hSb) (htS _ hSb)) ?_)
            rintro _ wa ⟨rfl, hsa⟩
            have hSa := hSb.trans (hsa.below w7.heap.size)
            have hba := hbb.still hsa
            refine ⟨hSa, ?_⟩
            refine WV.q rfl (q_add (by rfl) (by rfl) (by unfold InI; omega)) hSa ?_
            rw [hadd]
            refine WV.o rfl (o_build (us := [.int .i64 cN, .int .i64 (findT cT : Nat)]) (cells := [.int .i64 cN, .slice none 0 0, .int .i64 (findT cT : Nat)]) (by rfl) (by rfl) ?_)
            refine ⟨hSa, ?_⟩
            refine WV.o rfl (o_storeS (vs := [.int .i64 cN, .slice none 0 0, .int .i64 (findT cT : Nat)]) (by rfl) (by rfl) hba (by rfl) (by rfl) hone ?_)
            intro wc hbc hbutc
            have hf := fin [] _ _ hba hS8.size hSa _ hbc hbutc
            refine ⟨hf.2, WV.nil (thenN ?_)⟩
            exact ⟨_, ⟨rfl, rfl, rfl, rfl, rfl, rfl, rfl, trivial⟩, hbc, hf⟩
        · intro wb hbb hblb hzb
          have hSb := hS8.trans (Below.mono hblb hS8.size)
          refine ⟨hSb, ?_⟩
          refine WV.o rfl (o_call (l01Mod_any _ _) ?_)
          rintro _ _ ⟨rfl, rfl⟩
          rw [hnm]
          refine ⟨hSb, ?_⟩
          refine WV.o rfl (o_call (l03Find_any (hTS _ hSb) (htS _ hSb)) ?_)
          rintro _ wa ⟨rfl, hsa⟩
          have hSa := hSb.trans (hsa.below w7.heap.size)
          have hba := hbb.still hsa
          refine ⟨hSa, ?_⟩
          refine WV.q rfl (q_add (by rfl) (by rfl) (by unfold InI; omega)) hSa ?_
          rw [hadd]
          refine WV.o rfl (o_build (us := [.int .i64 cN, .int .i64 (findT cT : Nat)]) (cells := [.int .i64 cN, .slice none 0 0, .int .i64 (findT cT : Nat)]) (by rfl) (by rfl) ?_)
          refine ⟨hSa, ?_⟩
          refine WV.o rfl (o_storeS (vs := [.int .i64 cN, .slice none 0 0, .int .i64 (findT cT : Nat)]) (by rfl) (by rfl) hba (by rfl) (by rfl) hone ?_)
          intro wc hbc hbutc
          have hf := fin [] _ _ hba hS8.size hSa _ hbc hbutc
          refine ⟨hf.2, WV.nil (thenN ?_)⟩
          exact ⟨_, ⟨rfl, rfl, rfl, rfl, rfl, rfl, rfl, trivial⟩, hbc, hf⟩
      · rintro l' w9 ⟨kb, hag, hb9, hkb, hbl79⟩
        refine WP.frame _ hag ?_
        clear hag
        have hz9 := hbl79.size
        have hkb9 := hb9.lt
        repeat' (first|refine X.O ?_|refine X.A ?_|refine X.B ?_|refine X.C ?_|refine X.D ?_|refine X.E ?_|refine X.F ?_|refine X.G ?_|refine X.H ?_|refine X.I ?_|fail)
        refine WP.loop (fun (s : Nat × Value) => [(1, .slice at1 37 ct), (2, vo), (3, .int .i64 (i : Nat)), (4, .slice a5 ts5.length c5), (5, vl), (6, .int .i64 (j : Nat)), (7, .pointer (some ⟨kb, 0, none⟩)), (8, .int .i64 (s.1 : Nat))])
          (fun s wk => s.1 ≤ cC.length ∧ Blk wk kb [.int .i64 cN, s.2, .int .i64 (findT cT : Nat)] 102 ∧ Own w9.heap.size 2 wk s.2 (Ints ((cC.take s.1).map fun b => ((findT b : Nat) : Int))) ∧ Below w7.heap.size w7 wk ∧ w9.heap.size ≤ wk.heap.size)
          (fun s => cC.length - s.1) (0, .slice none 0 0) ⟨rfl, rfl, rfl, rfl, rfl, rfl, rfl, rfl, trivial⟩ ⟨by dsimp only; omega, hb9, Own.nil _ _ _, hbl79, Nat.le_refl _⟩ ?_
        rintro ⟨k, vk⟩ wk ⟨hk1, hbk, ok, hblk, hz9k⟩
        dsimp only at hk1 hbk ok hblk hz9k ⊢
        have hzk := hblk.size
        have hlk2 : ((cC.take k).map fun b => ((findT b : Nat) : Int)).length = k := by rw [List.length_map, List.length_take]; omega
        have hTk : ISS w.heap.size w1.heap.size wk (.slice at1 37 ct) (treesTo 6) := (hT4.below IS.stable hbl47 (by omega)).below IS.stable hblk (by omega)
        have o5k : Own3 w4.heap.size 91 wk (.slice a5 ts5.length c5) ts5 := (o5.below hbl7 (Nat.le_refl _)).below hblk (Nat.le_refl _)
        obtain ⟨avk, cvk, hvk, _⟩ := ok.shape
        repeat' (first|refine X.O ?_|refine X.A ?_|refine X.B ?_|refine X.C ?_|refine X.D ?_|refine X.E ?_|refine X.F ?_|refine X.G ?_|refine X.H ?_|refine X.I ?_|fail)
        refine WL.ixfld3 (j := j) (off := 0) o5k hgx (by rfl) ?_
        intro _ _
        repeat' (first|refine X.O ?_|refine X.A ?_|refine X.B ?_|refine X.C ?_|refine X.D ?_|refine X.E ?_|refine X.F ?_|refine X.G ?_|refine X.H ?_|refine X.I ?_|fail)
        first|refine X.J (fun _ => ?_) (fun _ => ?_)|refine X.L (fun _ => ?_) (fun _ => ?_)|refine X.M (fun _ => ?_) (fun _ => ?_)|refine X.R (fun _ => ?_) (fun _ => ?_)|fail
        · rename_i hltk
          have hlk : k < cC.length := by omega
          have hfk := hf38 cC[k]
          have hRk : ISS 0 w5.heap.size wk (.slice ac cC.length cc) cC := (hR5.below IS.stable hbl7 (Nat.le_refl _)).below IS.stable hblk (by omega)
          repeat' (first|refine X.O ?_|refine X.A ?_|refine X.B ?_|refine X.C ?_|refine X.D ?_|refine X.E ?_|refine X.F ?_|refine X.G ?_|refine X.H ?_|refine X.I ?_|fail)
          refine WP.drawn (fun w' => Below w9.heap.size wk w') [(0, true), (1, true), (2, true), (3, true), (4, true), (5, true), (6, true), (7, true), (8, true), (9, true), (10, true), (11, false), (12, true), (13, false), (14, false), (15, true), (1016, false)] (by kernel_rfl) mixed ?_
          intro wa hsa
          have hza := hsa.size
          have hSa : Below w9.heap.size wk wa := hsa.below _
          have hAS : ∀ w', Below w9.heap.size wk w' → Own3 w4.heap.size 91 w' (.slice a5 ts5.length c5) ts5 := fun w' h => o5k.keep fun b hb => h.block b (by have := ((o5.block b hb)).2; omega)
          refine WS.fld rfl rfl (fun w' h => hbk.below h (by omega)) hSa ?_
          intro q3
          repeat' (first|refine X.U rfl ?_|refine X.V rfl ?_|refine X.W rfl ?_|refine X.Y rfl ?_|refine X.Z rfl ?_|refine WS.nil ?_|fail)
          refine WS.ixfld3 (j := j) (off := 0) rfl rfl rfl hAS hgx (by rfl) hSa ?_
          intro _ _
          repeat' (first|refine X.U rfl ?_|refine X.V rfl ?_|refine X.W rfl ?_|refine X.Y rfl ?_|refine X.Z rfl ?_|refine WS.nil ?_|fail)
          refine WS.ixload (j := k) rfl rfl (hRk.still IS.stable hsa) (List.getElem?_eq_getElem hlk) (fun w' hw' => same_below hSa hw' (by omega)) hSa ?_
          intro q4 u4 hu4
          refine WS.call rfl (l03Find_any (hTk.below IS.stable hSa (by omega)) hu4) ?_
          rintro _ wb ⟨rfl, hsb⟩
          have hzb := hsb.size
          have hSb := hSa.trans (hsb.below w9.heap.size)
          refine ⟨hSb, ?_⟩
          refine WS.q rfl (q_add (by rfl) (by rfl) (by unfold InI; omega)) hSb ?_
          rw [show ((findT cC[k] : Nat) : Int) - 1 + 1 = (findT cC[k] : Nat) by omega]
          refine WS.op rfl (o_lit (us := [.int .i64 ((findT cC[k] : Nat) : Int)]) (by rfl) (by rfl) rfl (by decide) (one1 rfl) ?_)
          intro vl2 wc hlc2 hblc hzc _
          have hSc : Below w9.heap.size wk wc := hSb.trans (Below.mono hblc (by omega))
          refine ⟨hSc, ?_⟩
          have okc := ((ok.still hsa).still hsb).below hblc (by omega)
          refine WS.op rfl (o_append (us := Ints ((cC.take k).map fun b => ((findT b : Nat) : Int))) (news := [.int .i64 ((findT cC[k] : Nat) : Int)]) (by rfl) (by rfl) okc hlc2.src (one1 rfl) (by rw [Ints_length, hlk2]; simp [maxLen]; omega) (by rw [Ints_length, hlk2]; simp; omega) (by omega) ?_)
          intro vd wd okd hgd hbld _
          have hzd := hgd.size
          have hSd : Below w9.heap.size wk wd := hSc.trans hbld
          refine ⟨hSd, ?_⟩
          obtain ⟨avd, cvd, hvd, _⟩ := okd.shape
          have hbd := hbk.below hSd (by omega)
          refine WS.fldst (off := 1) rfl rfl hbd hSd ?_ (hu := by rw [hvd]; rfl)
          intro q5 we hbe hbute
          have hze := hbute.size
          refine WS.nil ?_
          have hint : Ints ((cC.take (k + 1)).map fun b => ((findT b : Nat) : Int)) = Ints ((cC.take k).map fun b => ((findT b : Nat) : Int)) ++ [.int .i64 ((findT cC[k] : Nat) : Int)] := by
            rw [List.take_succ_eq_append_getElem hlk, List.map_append, Ints_append]; rfl
          repeat' (first|refine X.O ?_|refine X.A ?_|refine X.B ?_|refine X.C ?_|refine X.D ?_|refine X.E ?_|refine X.F ?_|refine X.G ?_|refine X.H ?_|refine X.I ?_|fail)
          refine ⟨(k + 1, vd), ⟨rfl, rfl, rfl, rfl, rfl, rfl, rfl, (by first|rfl|exact X.T (by omega)), trivial⟩, ⟨by dsimp only; omega, hbe, ?_, (hblk.trans (Below.mono hSd (by omega))).trans (hbute.below hkb), by omega⟩, by dsimp only; omega⟩
          dsimp only
          rw [hint]
          exact okd.keep fun b hb => hbute.block b (by have := (okd.block b hb).1; omega)
        · rename_i hgek
          have hke : k = cC.length := by omega
          subst hke
          rw [List.take_length] at ok
          have hmp : mapCutS (cC, cT, cN) = (cN, cC.map findT, findT cT) := rfl
          have hcm : (cC.map fun b => ((findT b : Nat) : Int)) = (cC.map findT).map fun (n : Nat) => (n : Int) := by rw [List.map_map]; rfl
          rw [hcm] at ok
          repeat' (first|refine X.O ?_|refine X.A ?_|refine X.B ?_|refine X.C ?_|refine X.D ?_|refine X.E ?_|refine X.F ?_|refine X.G ?_|refine X.H ?_|refine X.I ?_|fail)
          refine WL.step (o_loadS (by rfl) hbk (by rfl) ?_)
          have hmc : MC 2 wk (.int .i64 cN, vk, .int .i64 (findT cT : Nat)) (mapCutS (cC, cT, cN)) := by rw [hmp]; exact ⟨rfl, ⟨_, ok⟩, rfl⟩
          have olk := ol.below hblk (Nat.le_refl _)
          refine WL.app3 (tr := (.int .i64 cN, vk, .int .i64 (findT cT : Nat))) (fun _ => by rfl) (by rfl) olk hmc.one (by unfold maxLen; omega) (by omega) (by omega) ?_
          intro q8 vd wd hap _
          have hts := hap.tsame (e1 := 2) (e2 := 2) olk (by decide) (by decide)
          repeat' (first|refine X.O ?_|refine X.A ?_|refine X.B ?_|refine X.C ?_|refine X.D ?_|refine X.E ?_|refine X.F ?_|refine X.G ?_|refine X.H ?_|refine X.I ?_|fail)
          exact ⟨(j + 1, vd), ⟨rfl, rfl, rfl, rfl, rfl, (by first|rfl|exact X.T (by omega)), trivial⟩, ⟨by dsimp only; omega, ⟨_, hap.own, by
            rw [hst]
            exact ((hMl.tsame (TSame.below (e := 2) (e2 := 2) hblk) (Or.inl rfl)).tsame hts (Or.inl rfl)).snoc (hmc.tsame hts (Or.inl rfl))⟩, (hbl7.trans (Below.mono hblk (by omega))).trans hap.bel⟩, by dsimp only; omega⟩
    · rename_i hgej
      have hje : j = G.length := by omega
      subst hje
      rw [List.take_length, hrow] at hMl
      obtain ⟨vs4, oM, hMl4, hMr4⟩ := hM4.below (Below.mono hbl47 (Nat.le_refl _))
      have hvl4 : vs4.length = i + 1 := by rw [hMl4, List.length_cons, List.length_take]; omega
      have hrowl : MRow 102 2 w7 vl cutLit[i] := ⟨_, _, ol, hMl⟩
      repeat' (first|refine X.O ?_|refine X.A ?_|refine X.B ?_|refine X.C ?_|refine X.D ?_|refine X.E ?_|refine X.F ?_|refine X.G ?_|refine X.H ?_|refine X.I ?_|fail)
      refine o_append1 (u := vl) (fun _ => by rfl) (by rfl) oM hrowl.one (by rw [hvl4]; unfold maxLen; omega) (by rw [hvl4]; omega) (by omega) ?_
      intro q10 vn wn hownn hbln hfn hzn hnn
      have hMn := MTab.snoc oM hMl4 hMr4 hrowl hownn (by omega) hfn (by decide) (by decide)
      repeat' (first|refine X.O ?_|refine X.A ?_|refine X.B ?_|refine X.C ?_|refine X.D ?_|refine X.E ?_|refine X.F ?_|refine X.G ?_|refine X.H ?_|refine X.I ?_|fail)
      exact ⟨(i + 1, vn), ⟨rfl, rfl, (by first|rfl|exact X.T (by omega)), trivial⟩, ⟨by dsimp only; omega, by
        dsimp only
        rw [List.take_succ_eq_append_getElem hlc, ← List.cons_append]
        exact hMn, (hbl4.trans (Below.mono hbl47 (by omega))).trans hbln⟩, by dsimp only; omega⟩
  · rename_i hge
    have hie : i = 37 := by omega
    subst hie
    rw [List.take_of_length_le (by omega)] at hM4
    repeat' (first|refine X.O ?_|refine X.A ?_|refine X.B ?_|refine X.C ?_|refine X.D ?_|refine X.E ?_|refine X.F ?_|refine X.G ?_|refine X.H ?_|refine X.I ?_|fail)
    refine ⟨_, ret1 rfl (by rfl), ?_⟩
    exact ⟨hM4.tb, hbl1.trans (Below.mono hbl4 (by omega))⟩
end Go.Proofs
