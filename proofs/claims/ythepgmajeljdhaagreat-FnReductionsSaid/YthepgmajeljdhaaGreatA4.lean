/- The inverse of a tableau. -/
import Derived.Test.YthepgmajeljdhaaGreatT1
import Derived.Test.YthepgmajeljdhaaGreatA1
import Derived.Test.YthepgmajeljdhaaGreatPlA
namespace Go.Proofs
open Go Go.Fw Go.RowKit Go.Rk

theorem l02Times_any {lo hi : Nat} {w : World} {v : Value} {xs : List Int} (k : Int) (h : IS lo hi w v xs) (hn : xs.length ≤ 1000000) (hx : allN xs = true) (hk : isN k = true) :
    Does Tryz.prog 90 [v, .int .i64 k] w fun r w' => NewI w r w' (scaledL xs k) := by
  obtain ⟨a, c, hv⟩ := h.shape
  rw [hv] at h ⊢
  have hlen : (scaledL xs k).length = xs.length := by simp [scaledL]
  refine Does.enter Tryz.func90 Tryz.ntmps90 rfl (by rfl) ?_
  repeat' (first|refine X.O ?_|refine X.A ?_|refine X.B ?_|refine X.C ?_|refine X.D ?_|refine X.E ?_|refine X.F ?_|refine X.G ?_|refine X.H ?_|refine X.I ?_|fail)
  refine WL.step (o_lit (us := []) (by rfl) (by rfl) rfl (by decide) one0 ?_)
  intro v1 w1 hown hb1 hz1 _
  repeat' (first|refine X.O ?_|refine X.A ?_|refine X.B ?_|refine X.C ?_|refine X.D ?_|refine X.E ?_|refine X.F ?_|refine X.G ?_|refine X.H ?_|refine X.I ?_|fail)
  refine WP.loop (fun (s : Nat × Value) => [(0, .slice a xs.length c), (1, .int .i64 k), (5, s.2), (6, .int .i64 s.1)])
    (fun s w2 => s.1 ≤ xs.length ∧ Own w.heap.size 2 w2 s.2 (Ints ((scaledL xs k).take s.1)) ∧ Below w.heap.size w w2)
    (fun s => xs.length - s.1) (0, v1) ⟨rfl, rfl, rfl, rfl, trivial⟩ ⟨by omega, by simpa [Ints] using hown, hb1⟩ ?_
  rintro ⟨i, vo⟩ w2 ⟨hi, hown2, hb2⟩
  dsimp only at hi hown2 ⊢
  have hs2 := hb2.size
  repeat' (first|refine X.O ?_|refine X.A ?_|refine X.B ?_|refine X.C ?_|refine X.D ?_|refine X.E ?_|refine X.F ?_|refine X.G ?_|refine X.H ?_|refine X.I ?_|fail)
  first|refine X.J (fun _ => ?_) (fun _ => ?_)|refine X.L (fun _ => ?_) (fun _ => ?_)|refine X.M (fun _ => ?_) (fun _ => ?_)|refine X.R (fun _ => ?_) (fun _ => ?_)|fail
  · rename_i hlt
    have hlt' : i < xs.length := by omega
    have h2 := h.below RI.stable hb2 h.hi_le
    have hxb := allN_get hx hlt'
    have hkb := isN_bd hk
    have hmb := mul_bd hxb.1 hxb.2 hkb.1 hkb.2
    repeat' (first|refine X.O ?_|refine X.A ?_|refine X.B ?_|refine X.C ?_|refine X.D ?_|refine X.E ?_|refine X.F ?_|refine X.G ?_|refine X.H ?_|refine X.I ?_|fail)
    refine WL.ixload h2 (List.getElem?_eq_getElem hlt') ?_
    rintro p _ rfl
    repeat' (first|refine X.O ?_|refine X.A ?_|refine X.B ?_|refine X.C ?_|refine X.D ?_|refine X.E ?_|refine X.F ?_|refine X.G ?_|refine X.H ?_|refine X.I ?_|fail)
    refine WL.call (l01Mul_any xs[i] k _ (by unfold InI; omega)) ?_
    rintro _ _ ⟨rfl, rfl⟩
    refine o_append1 (u := .int .i64 _) (fun _ => by rfl) (by rfl) hown2 rfl (by simp [Ints, hlen, maxLen]; omega) (by simp [Ints, hlen]; omega) (by omega) ?_
    intro p5 v5 w5 hown5 hb5 _ _ _
    repeat' (first|refine X.O ?_|refine X.A ?_|refine X.B ?_|refine X.C ?_|refine X.D ?_|refine X.E ?_|refine X.F ?_|refine X.G ?_|refine X.H ?_|refine X.I ?_|fail)
    refine ⟨(i + 1, v5), ⟨rfl, rfl, rfl, (by first|rfl|exact X.T (by omega)), trivial⟩, ⟨by dsimp only; omega, ?_, hb2.trans hb5⟩, by dsimp only; omega⟩
    dsimp only
    rw [← Ints_snoc (show i < (scaledL xs k).length by omega) (y := nm (xs[i] * k)) (by rw [scaledL_get _ hlt', nm_of hk])]
    exact hown5
  · rename_i hge
    have : i = xs.length := by omega
    subst this
    repeat' (first|refine X.O ?_|refine X.A ?_|refine X.B ?_|refine X.C ?_|refine X.D ?_|refine X.E ?_|refine X.F ?_|refine X.G ?_|refine X.H ?_|refine X.I ?_|fail)
    refine ⟨_, ret1 rfl (by rfl), ?_⟩
    rw [List.take_of_length_le (by omega)] at hown2
    exact ⟨hown2, hb2⟩
/-- The sum of two lists of numbers. -/
def addL (a b : List Int) : List Int := List.zipWith (fun x y => nm (x + y)) a b
theorem addL_length (a b : List Int) : (addL a b).length = min a.length b.length := by simp [addL]
theorem addL_get {a b : List Int} {i : Nat} (h : i < (addL a b).length) (h1 : i < a.length) (h2 : i < b.length) : (addL a b)[i] = nm (a[i] + b[i]) := by simp [addL]
theorem addL_scaled (a b : List Int) (k : Int) : addL a (scaledL b k) = plusL a b k := by
  unfold addL scaledL plusL
  rw [List.zipWith_map_right]
  congr 1
  funext x y
  rw [nm_add_nm, Int.mul_comm]
theorem l02Add_any {lo hi lo' hi' : Nat} {w : World} {v v' : Value} {xs ys : List Int} (h : IS lo hi w v xs) (h' : IS lo' hi' w v' ys) (hl : xs.length ≤ ys.length) (hn : xs.length ≤ 1000000) (hx : allN xs = true) (hy : allN ys = true) :
    Does Tryz.prog 91 [v, v'] w fun r w' => NewI w r w' (addL xs ys) := by
  obtain ⟨a, c, hv⟩ := h.shape
  obtain ⟨a', c', hv'⟩ := h'.shape
  rw [hv] at h ⊢
  rw [hv'] at h' ⊢
  refine Does.enter Tryz.func91 Tryz.ntmps91 rfl (by rfl) ?_
  repeat' (first|refine X.O ?_|refine X.A ?_|refine X.B ?_|refine X.C ?_|refine X.D ?_|refine X.E ?_|refine X.F ?_|refine X.G ?_|refine X.H ?_|refine X.I ?_|fail)
  refine WL.step (o_lit (us := []) (by rfl) (by rfl) rfl (by decide) one0 ?_)
  intro v1 w1 hown hb1 hz1 _
  repeat' (first|refine X.O ?_|refine X.A ?_|refine X.B ?_|refine X.C ?_|refine X.D ?_|refine X.E ?_|refine X.F ?_|refine X.G ?_|refine X.H ?_|refine X.I ?_|fail)
  refine WP.loop (fun (s : Nat × Value) => [(0, .slice a xs.length c), (1, .slice a' ys.length c'), (5, s.2), (6, .int .i64 s.1)])
    (fun s w2 => s.1 ≤ xs.length ∧ Own w.heap.size 2 w2 s.2 (Ints ((addL xs ys).take s.1)) ∧ Below w.heap.size w w2)
    (fun s => xs.length - s.1) (0, v1) ⟨rfl, rfl, rfl, rfl, trivial⟩ ⟨by omega, by simpa [Ints] using hown, hb1⟩ ?_
  rintro ⟨i, vo⟩ w2 ⟨hi, hown2, hb2⟩
  dsimp only at hi hown2 ⊢
  have hs2 := hb2.size
  repeat' (first|refine X.O ?_|refine X.A ?_|refine X.B ?_|refine X.C ?_|refine X.D ?_|refine X.E ?_|refine X.F ?_|refine X.G ?_|refine X.H ?_|refine X.I ?_|fail)
  first|refine X.J (fun _ => ?_) (fun _ => ?_)|refine X.L (fun _ => ?_) (fun _ => ?_)|refine X.M (fun _ => ?_) (fun _ => ?_)|refine X.R (fun _ => ?_) (fun _ => ?_)|fail
  · rename_i hlt
    have hlt' : i < xs.length := by omega
    repeat' (first|refine X.O ?_|refine X.A ?_|refine X.B ?_|refine X.C ?_|refine X.D ?_|refine X.E ?_|refine X.F ?_|refine X.G ?_|refine X.H ?_|refine X.I ?_|fail)
    refine WP.drawn (fun w' => Below w.heap.size w w') [(0, true), (1, true), (2, true), (3, true), (4, true), (5, true), (6, true), (7, true), (8, true), (9, false), (10, false), (11, false), (12, true)] (by kernel_rfl) mixed ?_
    intro w3 hs3
    have hb3 : Below w.heap.size w w3 := hb2.trans (hs3.below _)
    have h3 := h.below RI.stable hb3 h.hi_le
    have h3' := h'.below RI.stable hb3 h'.hi_le
    have hown3 := hown2.still hs3
    have hxb := allN_get hx hlt'
    have hyb := allN_get hy (show i < ys.length by omega)
    repeat' (first|refine X.U rfl ?_|refine X.V rfl ?_|refine X.W rfl ?_|refine X.Y rfl ?_|refine X.Z rfl ?_|refine WS.nil ?_|fail)
    refine WS.ixload rfl rfl h3 (List.getElem?_eq_getElem hlt') (fun w' hw' => same_below hb3 hw' h.hi_le) hb3 ?_
    rintro p1 _ rfl
    repeat' (first|refine X.U rfl ?_|refine X.V rfl ?_|refine X.W rfl ?_|refine X.Y rfl ?_|refine X.Z rfl ?_|refine WS.nil ?_|fail)
    refine WS.ixload rfl rfl h3' (List.getElem?_eq_getElem (show i < ys.length by omega)) (fun w' hw' => same_below hb3 hw' h'.hi_le) hb3 ?_
    rintro p2 _ rfl
    refine WS.call rfl (l01Add_any xs[i] ys[i] _ (by unfold InI; omega)) ?_
    rintro _ _ ⟨rfl, rfl⟩
    refine ⟨hb3, ?_⟩
    refine WS.op rfl (o_lit (us := [.int .i64 _]) (by rfl) (by rfl) rfl (by decide) (one1 rfl) ?_)
    intro v4 w4 hown4 hb4 hz4 _
    have hb4' : Below w.heap.size w w4 := hb3.trans (Below.mono hb4 (by have := hb3.size; omega))
    refine ⟨hb4', ?_⟩
    have hown4' := hown3.below hb4 (Nat.le_refl _)
    refine WS.op rfl (o_append (by rfl) (by rfl) hown4' hown4.src (one1 rfl) (by simp [Ints, addL_length, maxLen]; omega) (by simp [Ints, addL_length]; omega) (by have := hb4'.size; omega) ?_)
    intro v5 w5 hown5 _ hb5 _
    have hb5' := hb4'.trans hb5
    refine ⟨hb5', ?_⟩
    repeat' (first|refine X.U rfl ?_|refine X.V rfl ?_|refine X.W rfl ?_|refine X.Y rfl ?_|refine X.Z rfl ?_|refine WS.nil ?_|fail)
    repeat' (first|refine X.O ?_|refine X.A ?_|refine X.B ?_|refine X.C ?_|refine X.D ?_|refine X.E ?_|refine X.F ?_|refine X.G ?_|refine X.H ?_|refine X.I ?_|fail)
    refine ⟨(i + 1, v5), ⟨rfl, rfl, rfl, (by first|rfl|exact X.T (by omega)), trivial⟩, ⟨by dsimp only; omega, ?_, hb5'⟩, by dsimp only; omega⟩
    have hlp : i < (addL xs ys).length := by rw [addL_length]; omega
    dsimp only
    rw [← Ints_snoc hlp (y := nm (xs[i] + ys[i])) (by rw [addL_get _ hlt' (by omega)])]
    exact hown5
  · rename_i hge
    have : i = xs.length := by omega
    subst this
    repeat' (first|refine X.O ?_|refine X.A ?_|refine X.B ?_|refine X.C ?_|refine X.D ?_|refine X.E ?_|refine X.F ?_|refine X.G ?_|refine X.H ?_|refine X.I ?_|fail)
    refine ⟨_, ret1 rfl (by rfl), ?_⟩
    rw [List.take_of_length_le (by rw [addL_length]; omega)] at hown2
    exact ⟨hown2, hb2⟩

theorem allN_scaled (xs : List Int) (k : Int) : allN (scaledL xs k) = true := by
  unfold scaledL
  induction xs with
  | nil => exact allN_nil
  | cons x xs ih => rw [List.map_cons, allN_cons, nm_isN, ih]; rfl
theorem OwSS.nil (e e2 lo : Nat) (w : World) (h : e ≠ e2) : OwSS e e2 lo w.heap.size w (.slice none 0 0) [] :=
  ⟨[], Own.nil _ _ _, fun k hk => by simp [Value.ownBlock] at hk, Nat.le_refl _, rfl, fun i u xs hu => by simp at hu, fun i j u u' _ hu => by simp at hu, h⟩

theorem inverse_any {lo hi : Nat} {w : World} {v : Value} {x : TabD} (h : IT lo hi w v x) (hx : Tab x) :
    Does Tryz.prog 56 [v] w fun r w' => OwT 25 2 w.heap.size w'.heap.size w' r (inverseL x) ∧ Chg 0 0 w w' := by
  obtain ⟨va, vb, rfl, hA, hB⟩ := h
  obtain ⟨a, c, hva⟩ := hA.shape
  obtain ⟨a', c', hvb⟩ := hB.shape
  subst hva hvb
  have hm := hx.le8
  have hsq := hx.sq
  have hAz := hA.hi_le
  have hBz := hB.hi_le
  have hlenR : (inverseL x).1.length = x.1.length := by simp [inverseL]
  refine Does.enter Tryz.func56 Tryz.ntmps56 rfl (by rfl) ?_
  repeat' (first|refine X.O ?_|refine X.A ?_|refine X.B ?_|refine X.C ?_|refine X.D ?_|refine X.E ?_|refine X.F ?_|refine X.G ?_|refine X.H ?_|refine X.I ?_|fail)
  refine WL.step (o_box (by rfl) ?_)
  intro w1 hb1 hbl1 hz1
  refine WL.step (o_alloc ?_)
  intro w2 hb2 hbl2 hz2
  have hbl12 : Below w.heap.size w w2 := hbl1.trans (Below.mono hbl2 (by omega))
  replace hb1 := hb1.below hbl2 (by omega)
  replace hA := hA.below IS.stable hbl12 hAz
  replace hB := hB.below RI.stable hbl12 hBz
  repeat' (first|refine X.O ?_|refine X.A ?_|refine X.B ?_|refine X.C ?_|refine X.D ?_|refine X.E ?_|refine X.F ?_|refine X.G ?_|refine X.H ?_|refine X.I ?_|fail)
  refine WL.fld hb1 ?_
  intro p1
  refine WL.call (scaled_any (-1) hB (by omega) hx.last) ?_
  intro vs w3 hN3
  have hz3 := hN3.2.size
  obtain ⟨aq, cq, hvs, _⟩ := hN3.1.shape
  have oB := hN3.ow
  rw [Ints_length] at hvs
  subst hvs
  refine WL.step (o_build (us := [.slice aq (scaledL x.2 (-1)).length cq]) (cells := [.slice none 0 0, .slice aq (scaledL x.2 (-1)).length cq]) (by rfl) (by kernel_rfl) ?_)
  refine WL.var (vs := [.slice none 0 0, .slice aq (scaledL x.2 (-1)).length cq]) (fun p => by rfl) rfl two_cells ?_
  intro w4 hb4 hbl4 hz4
  have hbl14 : Below w.heap.size w w4 := hbl12.trans ((Below.mono hN3.2 (by omega)).trans (Below.mono hbl4 (by omega)))
  replace hb1 := (hb1.below hN3.2 (by omega)).below hbl4 (by omega)
  replace hb2 := (hb2.below hN3.2 (by omega)).below hbl4 (by omega)
  replace hA := (hA.below IS.stable hN3.2 (by omega)).below IS.stable hbl4 (by omega)
  replace hB := (hB.below RI.stable hN3.2 (by omega)).below RI.stable hbl4 (by omega)
  replace oB := oB.chg (Chg.of_below hbl4) (by omega)
  repeat' (first|refine X.O ?_|refine X.A ?_|refine X.B ?_|refine X.C ?_|refine X.D ?_|refine X.E ?_|refine X.F ?_|refine X.G ?_|refine X.H ?_|refine X.I ?_|fail)
  refine WL.fld hb1 ?_
  intro p2
  repeat' (first|refine X.O ?_|refine X.A ?_|refine X.B ?_|refine X.C ?_|refine X.D ?_|refine X.E ?_|refine X.F ?_|refine X.G ?_|refine X.H ?_|refine X.I ?_|fail)
  refine WP.loop (fun (s : Nat × Value) => [(1, .pointer (some ⟨w.heap.size, 0, none⟩)), (2, .pointer (some ⟨w1.heap.size, 0, none⟩)), (3, .pointer (some ⟨w3.heap.size, 0, none⟩)), (11, .slice a x.1.length c), (12, .int .i64 (x.1.length : Nat)), (13, .int .i64 (s.1 : Nat))])
    (fun s w5 => s.1 ≤ x.1.length ∧ s.2.oneCell' = true ∧ Blk w5 w3.heap.size [s.2, .slice aq (scaledL x.2 (-1)).length cq] 27 ∧ OwSS 25 2 w4.heap.size w5.heap.size w5 s.2 ((inverseL x).1.take s.1) ∧ Chg w3.heap.size w4.heap.size w4 w5)
    (fun s => x.1.length - s.1) (0, .slice none 0 0) ⟨rfl, rfl, rfl, rfl, rfl, rfl, trivial⟩ ⟨by omega, rfl, hb4, OwSS.nil _ _ _ _ (by decide), Chg.refl _ _ _⟩ ?_
  rintro ⟨i, vo⟩ w5 ⟨hi1, hone, hb5, oA, hc5⟩
  dsimp only at hi1 hone hb5 oA ⊢
  have hz5 := hc5.size
  have hA5 := ISS.chg hA hc5 (by omega)
  have hB5 := RI.chg hB hc5 (by omega)
  have hb15 := hb1.chg hc5 (by omega)
  repeat' (first|refine X.O ?_|refine X.A ?_|refine X.B ?_|refine X.C ?_|refine X.D ?_|refine X.E ?_|refine X.F ?_|refine X.G ?_|refine X.H ?_|refine X.I ?_|fail)
  first|refine X.J (fun _ => ?_) (fun _ => ?_)|refine X.L (fun _ => ?_) (fun _ => ?_)|refine X.M (fun _ => ?_) (fun _ => ?_)|refine X.R (fun _ => ?_) (fun _ => ?_)|fail
  · rename_i hlt
    have hlt' : i < x.1.length := by omega
    have hri := hx.row _ (List.getElem_mem hlt')
    repeat' (first|refine X.O ?_|refine X.A ?_|refine X.B ?_|refine X.C ?_|refine X.D ?_|refine X.E ?_|refine X.F ?_|refine X.G ?_|refine X.H ?_|refine X.I ?_|fail)
    refine WL.ixload hA5 (List.getElem?_eq_getElem hlt') ?_
    intro p5 u hu
    repeat' (first|refine X.O ?_|refine X.A ?_|refine X.B ?_|refine X.C ?_|refine X.D ?_|refine X.E ?_|refine X.F ?_|refine X.G ?_|refine X.H ?_|refine X.I ?_|fail)
    refine WP.drawn (fun w' => Below w4.heap.size w5 w') [(0, true), (1, true), (2, true), (3, true), (4, true), (5, false), (6, false), (7, false), (8, true), (1009, false)] (by kernel_rfl) mixed ?_
    intro w6 hs6
    have hS6 : Below w5.heap.size w5 w6 := hs6.below _
    have hz6 := hs6.size
    refine WS.fld rfl rfl (fun w' h => hb5.below h (by omega)) (Below.mono hS6 (by omega)) ?_
    intro p6
    have hT6 : Below w4.heap.size w5 w6 := Below.mono hS6 (by omega)
    repeat' (first|refine X.U rfl ?_|refine X.V rfl ?_|refine X.W rfl ?_|refine X.Y rfl ?_|refine X.Z rfl ?_|refine WS.nil ?_|fail)
    refine WS.fld rfl rfl (fun w' h => hb15.below h (by omega)) (Below.mono hS6 (by omega)) ?_
    intro p7
    refine WS.call rfl (plus_any (-1) (hu.still RI.stable hs6) (hB5.still RI.stable hs6) (by omega) (by omega) hri.2 hx.last) ?_
    intro vr w7 hN7
    have hz7 := hN7.2.size
    have hS7 : Below w5.heap.size w5 w7 := hS6.trans (Below.mono hN7.2 (by omega))
    refine ⟨Below.mono hS7 (by omega), ?_⟩
    obtain ⟨ar, cr, hvr, _⟩ := hN7.1.shape
    have oR := hN7.ow
    refine WS.op rfl (o_lit (us := [vr]) (by rfl) (by rfl) rfl (by decide) (one1 (by rw [hvr]; rfl)) ?_)
    intro v8 w8 hown8 hbl8 hz8 _
    have hS8 : Below w5.heap.size w5 w8 := hS7.trans (Below.mono hbl8 (by omega))
    refine ⟨Below.mono hS8 (by omega), ?_⟩
    obtain ⟨vs', oA⟩ := oA
    have oA8 := oA.chg (Chg.of_below hS8) (by omega)
    have oR8 := oR.chg (Chg.of_below hbl8) (by omega)
    have hvl : vs'.length = i := by rw [oA.len, List.length_take]; omega
    refine WS.op rfl (o_append (us := vs') (news := [vr]) (by rfl) (by rfl) oA8.own hown8.src (one1 (by rw [hvr]; rfl)) (by simp [maxLen]; omega) (by simp; omega) (by omega) ?_)
    intro v9 w9 hown9 hg9 hbl9 hnil9
    have hz9 := hg9.size
    have hS9' : Below w4.heap.size w5 w9 := (Below.mono hS8 (by omega)).trans hbl9
    have hb9 := (hb5.below hS8 hb5.lt).keep (hbl9.block _ (by omega))
    have sn := oA8.snoc (oR8.wide (Nat.le_refl _) (by omega) (Nat.le_refl _)) (by omega) (by omega) hown9 hz9 (fun k hk hne => hg9.block k hk (fun e => hne e.symm))
    obtain ⟨a9, c9, hv9, _⟩ := hown9.shape
    have h19 : v9.oneCell' = true := by rw [hv9]; rfl
    refine ⟨hS9', ?_⟩
    refine WS.fldst rfl rfl hb9 hS9' ?_ (hu := h19)
    intro p8 w10 hb10 hbut10
    have hz10 := hbut10.size
    refine WS.nil ?_
    repeat' (first|refine X.O ?_|refine X.A ?_|refine X.B ?_|refine X.C ?_|refine X.D ?_|refine X.E ?_|refine X.F ?_|refine X.G ?_|refine X.H ?_|refine X.I ?_|fail)
    refine ⟨(i + 1, v9), ⟨rfl, rfl, rfl, rfl, rfl, (by first|rfl|exact X.T (by omega)), trivial⟩, ⟨by dsimp only; omega, h19, hb10, ?_, ((hc5.thenBelow (Below.mono hS8 (by omega))).thenBelow hbl9).thenBut hbut10 (Nat.le_refl _) (by omega)⟩, by dsimp only; omega⟩
    refine ⟨vs' ++ [vr], ?_⟩
    have e : (inverseL x).1.take (i + 1) = (inverseL x).1.take i ++ [plusL x.1[i] x.2 (-1)] := take_snoc (by omega) (by simp [inverseL])
    dsimp only
    rw [e]
    exact (sn.chg hbut10.chg (by omega)).wide (Nat.le_refl _) (by omega) (Nat.le_refl _)
  · rename_i hge
    have : i = x.1.length := by omega
    subst this
    rw [List.take_of_length_le (by omega)] at oA
    have hb25 := hb2.chg hc5 (by omega)
    repeat' (first|refine X.O ?_|refine X.A ?_|refine X.B ?_|refine X.C ?_|refine X.D ?_|refine X.E ?_|refine X.F ?_|refine X.G ?_|refine X.H ?_|refine X.I ?_|fail)
    refine WL.step (o_loadS (by rfl) hb5 (by rfl) ?_)
    refine WL.step (o_storeS (vs := [vo, .slice aq (scaledL x.2 (-1)).length cq]) (by rfl) (by rfl) hb25 (by rfl) (by rfl) (fun u hu => by
      simp only [List.mem_cons, List.not_mem_nil, or_false] at hu
      rcases hu with rfl | rfl
      · exact hone
      · rfl) ?_)
    intro w6 hb6 hbut6
    have hc6 := hbut6.chg
    have hz6 := hbut6.size
    repeat' (first|refine X.O ?_|refine X.A ?_|refine X.B ?_|refine X.C ?_|refine X.D ?_|refine X.E ?_|refine X.F ?_|refine X.G ?_|refine X.H ?_|refine X.I ?_|fail)
    refine ⟨_, retS rfl (by rfl) hb6 (by rfl), ?_, ?_⟩
    · have h1 : OwSS 25 2 w4.heap.size w6.heap.size w6 vo (inverseL x).1 := (oA.chg hc6 (by omega)).wide (Nat.le_refl _) (by omega) (Nat.le_refl _)
      have h2 : OwI 2 w.heap.size w4.heap.size w6 (.slice aq (scaledL x.2 (-1)).length cq) (inverseL x).2 := ((oB.chg hc5 (by omega)).chg hc6 (by omega)).wide (by omega) (by omega) (by omega)
      exact OwT.mk' h1 h2 (by omega) (by omega)
    · have hc : Chg 0 0 w w4 := Chg.of_below hbl14
      refine ⟨by rw [hc6.os, hc5.os, hc.os], by rw [hc6.tape, hc5.tape, hc.tape], by rw [hc6.output, hc5.output, hc.output], by omega, fun k hk hd => ?_⟩
      rw [hc6.block k (by omega) (by omega), hc5.block k (by omega) (by omega), hc.block k hk (by omega)]
theorem scaledL_neg (xs : List Int) : scaledL xs 10006 = scaledL xs (-1) := by
  unfold scaledL
  rw [show nm 10006 = nm (-1) from by unfold nm; rfl]
theorem l10Inverse_any {lo hi : Nat} {w : World} {v : Value} {x : TabD} (h : IT lo hi w v x) (hx : Tab x) :
    Does Tryz.prog 47 [v] w fun r w' => OwT 25 2 w.heap.size w'.heap.size w' r (inverseL x) ∧ Chg 0 0 w w' := by
  obtain ⟨va, vb, rfl, hA, hB⟩ := h
  obtain ⟨a, c, hva⟩ := hA.shape
  obtain ⟨a', c', hvb⟩ := hB.shape
  subst hva hvb
  have hm := hx.le8
  have hsq := hx.sq
  have hAz := hA.hi_le
  have hBz := hB.hi_le
  have hlenR : (inverseL x).1.length = x.1.length := by simp [inverseL]
  refine Does.enter Tryz.func47 Tryz.ntmps47 rfl (by rfl) ?_
  repeat' (first|refine X.O ?_|refine X.A ?_|refine X.B ?_|refine X.C ?_|refine X.D ?_|refine X.E ?_|refine X.F ?_|refine X.G ?_|refine X.H ?_|refine X.I ?_|fail)
  refine WL.step (o_box (by rfl) ?_)
  intro w1 hb1 hbl1 hz1
  refine WL.step (o_alloc ?_)
  intro w2 hb2 hbl2 hz2
  have hbl12 : Below w.heap.size w w2 := hbl1.trans (Below.mono hbl2 (by omega))
  replace hb1 := hb1.below hbl2 (by omega)
  replace hA := hA.below IS.stable hbl12 hAz
  replace hB := hB.below RI.stable hbl12 hBz
  repeat' (first|refine X.O ?_|refine X.A ?_|refine X.B ?_|refine X.C ?_|refine X.D ?_|refine X.E ?_|refine X.F ?_|refine X.G ?_|refine X.H ?_|refine X.I ?_|fail)
  refine WL.fld hb1 ?_
  intro p1
  refine WL.call (l02Times_any 10006 hB (by omega) hx.last (by rw [isN_def]; rfl)) ?_
  rw [scaledL_neg]
  intro vs w3 hN3
  have hz3 := hN3.2.size
  obtain ⟨aq, cq, hvs, _⟩ := hN3.1.shape
  have oB := hN3.ow
  rw [Ints_length] at hvs
  subst hvs
  refine WL.step (o_build (us := [.slice aq (scaledL x.2 (-1)).length cq]) (cells := [.slice none 0 0, .slice aq (scaledL x.2 (-1)).length cq]) (by rfl) (by kernel_rfl) ?_)
  refine WL.var (vs := [.slice none 0 0, .slice aq (scaledL x.2 (-1)).length cq]) (fun p => by rfl) rfl two_cells ?_
  intro w4 hb4 hbl4 hz4
  have hbl14 : Below w.heap.size w w4 := hbl12.trans ((Below.mono hN3.2 (by omega)).trans (Below.mono hbl4 (by omega)))
  replace hb1 := (hb1.below hN3.2 (by omega)).below hbl4 (by omega)
  replace hb2 := (hb2.below hN3.2 (by omega)).below hbl4 (by omega)
  replace hA := (hA.below IS.stable hN3.2 (by omega)).below IS.stable hbl4 (by omega)
  replace hB := (hB.below RI.stable hN3.2 (by omega)).below RI.stable hbl4 (by omega)
  replace oB := oB.chg (Chg.of_below hbl4) (by omega)
  repeat' (first|refine X.O ?_|refine X.A ?_|refine X.B ?_|refine X.C ?_|refine X.D ?_|refine X.E ?_|refine X.F ?_|refine X.G ?_|refine X.H ?_|refine X.I ?_|fail)
  refine WP.loop (fun (s : Nat × Value) => [(1, .pointer (some ⟨w.heap.size, 0, none⟩)), (2, .pointer (some ⟨w1.heap.size, 0, none⟩)), (3, .pointer (some ⟨w3.heap.size, 0, none⟩)), (4, .int .i64 (s.1 : Nat))])
    (fun s w5 => s.1 ≤ x.1.length ∧ s.2.oneCell' = true ∧ Blk w5 w3.heap.size [s.2, .slice aq (scaledL x.2 (-1)).length cq] 27 ∧ OwSS 25 2 w4.heap.size w5.heap.size w5 s.2 ((inverseL x).1.take s.1) ∧ Chg w3.heap.size w4.heap.size w4 w5)
    (fun s => x.1.length - s.1) (0, .slice none 0 0) ⟨rfl, rfl, rfl, rfl, trivial⟩ ⟨by omega, rfl, hb4, OwSS.nil _ _ _ _ (by decide), Chg.refl _ _ _⟩ ?_
  rintro ⟨i, vo⟩ w5 ⟨hi1, hone, hb5, oA, hc5⟩
  dsimp only at hi1 hone hb5 oA ⊢
  have hz5 := hc5.size
  have hA5 := ISS.chg hA hc5 (by omega)
  have hB5 := RI.chg hB hc5 (by omega)
  have hb15 := hb1.chg hc5 (by omega)
  have oB5 := oB.chg hc5 (by omega)
  repeat' (first|refine X.O ?_|refine X.A ?_|refine X.B ?_|refine X.C ?_|refine X.D ?_|refine X.E ?_|refine X.F ?_|refine X.G ?_|refine X.H ?_|refine X.I ?_|fail)
  refine WL.fld hb15 ?_
  intro p2
  repeat' (first|refine X.O ?_|refine X.A ?_|refine X.B ?_|refine X.C ?_|refine X.D ?_|refine X.E ?_|refine X.F ?_|refine X.G ?_|refine X.H ?_|refine X.I ?_|fail)
  first|refine X.J (fun _ => ?_) (fun _ => ?_)|refine X.L (fun _ => ?_) (fun _ => ?_)|refine X.M (fun _ => ?_) (fun _ => ?_)|refine X.R (fun _ => ?_) (fun _ => ?_)|fail
  · rename_i hlt
    have hlt' : i < x.1.length := by omega
    have hri := hx.row _ (List.getElem_mem hlt')
    repeat' (first|refine X.O ?_|refine X.A ?_|refine X.B ?_|refine X.C ?_|refine X.D ?_|refine X.E ?_|refine X.F ?_|refine X.G ?_|refine X.H ?_|refine X.I ?_|fail)
    refine WP.drawn (fun w' => Below w4.heap.size w5 w') [(0, true), (1, true), (2, true), (3, true), (4, true), (5, true), (6, true), (7, true), (8, true), (9, false), (10, false), (11, false), (12, true), (1013, false)] (by kernel_rfl) mixed ?_
    intro w6 hs6
    have hS6 : Below w5.heap.size w5 w6 := hs6.below _
    have hz6 := hs6.size
    have hT6 : Below w4.heap.size w5 w6 := Below.mono hS6 (by omega)
    refine WS.fld rfl rfl (fun w' h => hb5.below h (by omega)) hT6 ?_
    intro p6
    refine WS.fld rfl rfl (fun w' h => hb15.below h (by omega)) hT6 ?_
    intro p7
    repeat' (first|refine X.U rfl ?_|refine X.V rfl ?_|refine X.W rfl ?_|refine X.Y rfl ?_|refine X.Z rfl ?_|refine WS.nil ?_|fail)
    refine WS.ixload rfl rfl (hA5.still IS.stable hs6) (List.getElem?_eq_getElem hlt') (fun w' hw' => same_below hT6 hw' (by omega)) hT6 ?_
    intro p5 u hu
    refine WS.fld rfl rfl (fun w' h => hb5.below h (by omega)) hT6 ?_
    intro p8
    refine WS.call rfl (l02Add_any hu (oB5.rd.still RI.stable hs6) (by rw [scaledL_length]; omega) (by omega) hri.2 (allN_scaled _ _)) ?_
    rw [addL_scaled]
    intro vr w7 hN7
    have hz7 := hN7.2.size
    have hS7 : Below w5.heap.size w5 w7 := hS6.trans (Below.mono hN7.2 (by omega))
    refine ⟨Below.mono hS7 (by omega), ?_⟩
    obtain ⟨ar, cr, hvr, _⟩ := hN7.1.shape
    have oR := hN7.ow
    refine WS.op rfl (o_lit (us := [vr]) (by rfl) (by rfl) rfl (by decide) (one1 (by rw [hvr]; rfl)) ?_)
    intro v8 w8 hown8 hbl8 hz8 _
    have hS8 : Below w5.heap.size w5 w8 := hS7.trans (Below.mono hbl8 (by omega))
    refine ⟨Below.mono hS8 (by omega), ?_⟩
    obtain ⟨vs', oA⟩ := oA
    have oA8 := oA.chg (Chg.of_below hS8) (by omega)
    have oR8 := oR.chg (Chg.of_below hbl8) (by omega)
    have hvl : vs'.length = i := by rw [oA.len, List.length_take]; omega
    refine WS.op rfl (o_append (us := vs') (news := [vr]) (by rfl) (by rfl) oA8.own hown8.src (one1 (by rw [hvr]; rfl)) (by simp [maxLen]; omega) (by simp; omega) (by omega) ?_)
    intro v9 w9 hown9 hg9 hbl9 hnil9
    have hz9 := hg9.size
    have hS9' : Below w4.heap.size w5 w9 := (Below.mono hS8 (by omega)).trans hbl9
    have hb9 := (hb5.below hS8 hb5.lt).keep (hbl9.block _ (by omega))
    have sn := oA8.snoc (oR8.wide (Nat.le_refl _) (by omega) (Nat.le_refl _)) (by omega) (by omega) hown9 hz9 (fun k hk hne => hg9.block k hk (fun e => hne e.symm))
    obtain ⟨a9, c9, hv9, _⟩ := hown9.shape
    have h19 : v9.oneCell' = true := by rw [hv9]; rfl
    refine ⟨hS9', ?_⟩
    refine WS.fldst rfl rfl hb9 hS9' ?_ (hu := h19)
    intro p9 w10 hb10 hbut10
    have hz10 := hbut10.size
    refine WS.nil ?_
    repeat' (first|refine X.O ?_|refine X.A ?_|refine X.B ?_|refine X.C ?_|refine X.D ?_|refine X.E ?_|refine X.F ?_|refine X.G ?_|refine X.H ?_|refine X.I ?_|fail)
    refine ⟨(i + 1, v9), ⟨rfl, rfl, rfl, (by first|rfl|exact X.T (by omega)), trivial⟩, ⟨by dsimp only; omega, h19, hb10, ?_, ((hc5.thenBelow (Below.mono hS8 (by omega))).thenBelow hbl9).thenBut hbut10 (Nat.le_refl _) (by omega)⟩, by dsimp only; omega⟩
    refine ⟨vs' ++ [vr], ?_⟩
    have e : (inverseL x).1.take (i + 1) = (inverseL x).1.take i ++ [plusL x.1[i] x.2 (-1)] := take_snoc (by omega) (by simp [inverseL])
    dsimp only
    rw [e]
    exact (sn.chg hbut10.chg (by omega)).wide (Nat.le_refl _) (by omega) (Nat.le_refl _)
  · rename_i hge
    have : i = x.1.length := by omega
    subst this
    rw [List.take_of_length_le (by omega)] at oA
    have hb25 := hb2.chg hc5 (by omega)
    repeat' (first|refine X.O ?_|refine X.A ?_|refine X.B ?_|refine X.C ?_|refine X.D ?_|refine X.E ?_|refine X.F ?_|refine X.G ?_|refine X.H ?_|refine X.I ?_|fail)
    refine WL.step (o_loadS (by rfl) hb5 (by rfl) ?_)
    refine WL.step (o_storeS (vs := [vo, .slice aq (scaledL x.2 (-1)).length cq]) (by rfl) (by rfl) hb25 (by rfl) (by rfl) (fun u hu => by
      simp only [List.mem_cons, List.not_mem_nil, or_false] at hu
      rcases hu with rfl | rfl
      · exact hone
      · rfl) ?_)
    intro w6 hb6 hbut6
    have hc6 := hbut6.chg
    have hz6 := hbut6.size
    repeat' (first|refine X.O ?_|refine X.A ?_|refine X.B ?_|refine X.C ?_|refine X.D ?_|refine X.E ?_|refine X.F ?_|refine X.G ?_|refine X.H ?_|refine X.I ?_|fail)
    refine ⟨_, retS rfl (by rfl) hb6 (by rfl), ?_, ?_⟩
    · have h1 : OwSS 25 2 w4.heap.size w6.heap.size w6 vo (inverseL x).1 := (oA.chg hc6 (by omega)).wide (Nat.le_refl _) (by omega) (Nat.le_refl _)
      have h2 : OwI 2 w.heap.size w4.heap.size w6 (.slice aq (scaledL x.2 (-1)).length cq) (inverseL x).2 := ((oB.chg hc5 (by omega)).chg hc6 (by omega)).wide (by omega) (by omega) (by omega)
      exact OwT.mk' h1 h2 (by omega) (by omega)
    · have hc : Chg 0 0 w w4 := Chg.of_below hbl14
      refine ⟨by rw [hc6.os, hc5.os, hc.os], by rw [hc6.tape, hc5.tape, hc.tape], by rw [hc6.output, hc5.output, hc.output], by omega, fun k hk hd => ?_⟩
      rw [hc6.block k (by omega) (by omega), hc5.block k (by omega) (by omega), hc.block k hk (by omega)]
theorem InverseTableau_any {lo hi : Nat} {w : World} {v : Value} {x : TabD} (h : IT lo hi w v x) : Does Tryz.prog 25 [v] w fun r w' => ResT 25 2 w r w' (inverseTableau x) := by
  obtain ⟨va, vb, rfl, hA, hB⟩ := h
  refine Does.enter Tryz.func25 Tryz.ntmps25 rfl (by rfl) ?_
  repeat' (first|refine X.O ?_|refine X.A ?_|refine X.B ?_|refine X.C ?_|refine X.D ?_|refine X.E ?_|refine X.F ?_|refine X.G ?_|refine X.H ?_|refine X.I ?_|fail)
  refine WL.step (o_box (by rfl) ?_)
  intro w1 hb1 hbl1 hz1
  refine WL.step (o_alloc ?_)
  intro w2 hb2 hbl2 hz2
  have hbl12 : Below w.heap.size w w2 := hbl1.trans (Below.mono hbl2 (by omega))
  have hc2 := Chg.of_below hbl12
  replace hb1 := hb1.below hbl2 (by omega)
  have hT : IT lo hi w (.agg #[va, vb]) x := ⟨va, vb, rfl, hA, hB⟩
  replace hT := hT.chg hc2 (by omega)
  repeat' (first|refine X.O ?_|refine X.A ?_|refine X.B ?_|refine X.C ?_|refine X.D ?_|refine X.E ?_|refine X.F ?_|refine X.G ?_|refine X.H ?_|refine X.I ?_|fail)
  refine WL.step (o_loadS (by rfl) hb1 (by rfl) ?_)
  refine WL.call (IsTableau_any hT) ?_
  rintro _ w3 ⟨rfl, hc3⟩
  have hz3 := hc3.size
  replace hT := hT.chg hc3 (by omega)
  replace hb1 := hb1.chg0 hc3
  replace hb2 := hb2.chg0 hc3
  repeat' (first|refine X.O ?_|refine X.A ?_|refine X.B ?_|refine X.C ?_|refine X.D ?_|refine X.E ?_|refine X.F ?_|refine X.G ?_|refine X.H ?_|refine X.I ?_|fail)
  first|refine X.J (fun _ => ?_) (fun _ => ?_)|refine X.L (fun _ => ?_) (fun _ => ?_)|refine X.M (fun _ => ?_) (fun _ => ?_)|refine X.R (fun _ => ?_) (fun _ => ?_)|fail
  · rename_i hbad
    repeat' (first|refine X.O ?_|refine X.A ?_|refine X.B ?_|refine X.C ?_|refine X.D ?_|refine X.E ?_|refine X.F ?_|refine X.G ?_|refine X.H ?_|refine X.I ?_|fail)
    refine WL.step (o_build (us := []) (cells := [.slice none 0 0, .slice none 0 0]) (by rfl) (by kernel_rfl) ?_)
    refine WL.step (o_storeS (vs := [.slice none 0 0, .slice none 0 0]) (by rfl) (by rfl) hb2 (by rfl) (by rfl) two_cells ?_)
    intro w4 hb4 hbut4
    have hc4 := hbut4.chg
    have hz4 := hbut4.size
    repeat' (first|refine X.O ?_|refine X.A ?_|refine X.B ?_|refine X.C ?_|refine X.D ?_|refine X.E ?_|refine X.F ?_|refine X.G ?_|refine X.H ?_|refine X.I ?_|fail)
    have e : inverseTableau x = (([], []), 1) := by simp [inverseTableau, hbad]
    rw [e]
    refine ⟨_, retS1 rfl (by rfl) hb4 (by rfl) (by rfl), _, rfl, ?_, ?_⟩
    · exact OwT.mk (m := w.heap.size) (x := ([], [])) ⟨[], Own.nil _ _ _, fun k hk => by simp [Value.ownBlock] at hk, by omega, rfl, fun i u xs hu => by simp at hu, fun i j u u' _ hu => by simp at hu, by decide⟩ ⟨Own.nil _ _ _, fun k hk => by simp [Value.ownBlock] at hk, Nat.le_refl _⟩ (Nat.le_refl _) (by omega)
    · refine ⟨by rw [hc4.os, hc3.os, hc2.os], by rw [hc4.tape, hc3.tape, hc2.tape], by rw [hc4.output, hc3.output, hc2.output], by omega, fun k hk hd => ?_⟩
      rw [hc4.block k (by omega) (by omega), hc3.block k (by omega) (by omega), hc2.block k hk (by omega)]
  · rename_i hok
    repeat' (first|refine X.O ?_|refine X.A ?_|refine X.B ?_|refine X.C ?_|refine X.D ?_|refine X.E ?_|refine X.F ?_|refine X.G ?_|refine X.H ?_|refine X.I ?_|fail)
    refine WL.step (o_loadS (by rfl) hb1 (by rfl) ?_)
    refine WL.call (inverse_any hT (isTab_iff hok)) ?_
    rintro v4 w4 ⟨oT, hc4⟩
    have hz4 := hc4.size
    replace hb2 := hb2.chg0 hc4
    obtain ⟨aq, nq, cq, ar, nr, cr, rfl⟩ := oT.cells
    refine WL.step (o_storeS (vs := [.slice aq nq cq, .slice ar nr cr]) (by rfl) (by rfl) hb2 (by rfl) (by rfl) two_cells ?_)
    intro w5 hb5 hbut5
    have hc5 := hbut5.chg
    have hz5 := hbut5.size
    repeat' (first|refine X.O ?_|refine X.A ?_|refine X.B ?_|refine X.C ?_|refine X.D ?_|refine X.E ?_|refine X.F ?_|refine X.G ?_|refine X.H ?_|refine X.I ?_|fail)
    have e : inverseTableau x = (inverseL x, 0) := by simp [inverseTableau, hok]
    rw [e]
    refine ⟨_, retS1 rfl (by rfl) hb5 (by rfl) (by rfl), _, rfl, ?_, ?_⟩
    · exact (oT.chg hc5 (by omega)).wide (by omega) (by omega) (by omega)
    · refine ⟨by rw [hc5.os, hc4.os, hc3.os, hc2.os], by rw [hc5.tape, hc4.tape, hc3.tape, hc2.tape], by rw [hc5.output, hc4.output, hc3.output, hc2.output], by omega, fun k hk hd => ?_⟩
      rw [hc5.block k (by omega) (by omega), hc4.block k (by omega) (by omega), hc3.block k (by omega) (by omega), hc2.block k hk (by omega)]
theorem sInverseTableau_any {lo hi : Nat} {w : World} {v : Value} {x : TabD} (h : IT lo hi w v x) : Does Tryz.prog 26 [v] w fun r w' => ResT 25 2 w r w' (inverseTableau x) := by
  obtain ⟨va, vb, rfl, hA, hB⟩ := h
  refine Does.enter Tryz.func26 Tryz.ntmps26 rfl (by rfl) ?_
  repeat' (first|refine X.O ?_|refine X.A ?_|refine X.B ?_|refine X.C ?_|refine X.D ?_|refine X.E ?_|refine X.F ?_|refine X.G ?_|refine X.H ?_|refine X.I ?_|fail)
  refine WL.step (o_box (by rfl) ?_)
  intro w1 hb1 hbl1 hz1
  refine WL.step (o_alloc ?_)
  intro w2 hb2 hbl2 hz2
  have hbl12 : Below w.heap.size w w2 := hbl1.trans (Below.mono hbl2 (by omega))
  have hc2 := Chg.of_below hbl12
  replace hb1 := hb1.below hbl2 (by omega)
  have hT : IT lo hi w (.agg #[va, vb]) x := ⟨va, vb, rfl, hA, hB⟩
  replace hT := hT.chg hc2 (by omega)
  repeat' (first|refine X.O ?_|refine X.A ?_|refine X.B ?_|refine X.C ?_|refine X.D ?_|refine X.E ?_|refine X.F ?_|refine X.G ?_|refine X.H ?_|refine X.I ?_|fail)
  refine WL.step (o_loadS (by rfl) hb1 (by rfl) ?_)
  refine WL.call (l09Is_any hT) ?_
  rintro _ w3 ⟨rfl, hc3⟩
  have hz3 := hc3.size
  replace hT := hT.chg hc3 (by omega)
  replace hb1 := hb1.chg0 hc3
  replace hb2 := hb2.chg0 hc3
  repeat' (first|refine X.O ?_|refine X.A ?_|refine X.B ?_|refine X.C ?_|refine X.D ?_|refine X.E ?_|refine X.F ?_|refine X.G ?_|refine X.H ?_|refine X.I ?_|fail)
  first|refine X.J (fun _ => ?_) (fun _ => ?_)|refine X.L (fun _ => ?_) (fun _ => ?_)|refine X.M (fun _ => ?_) (fun _ => ?_)|refine X.R (fun _ => ?_) (fun _ => ?_)|fail
  · rename_i hbad
    repeat' (first|refine X.O ?_|refine X.A ?_|refine X.B ?_|refine X.C ?_|refine X.D ?_|refine X.E ?_|refine X.F ?_|refine X.G ?_|refine X.H ?_|refine X.I ?_|fail)
    refine WL.step (o_build (us := []) (cells := [.slice none 0 0, .slice none 0 0]) (by rfl) (by kernel_rfl) ?_)
    refine WL.step (o_storeS (vs := [.slice none 0 0, .slice none 0 0]) (by rfl) (by rfl) hb2 (by rfl) (by rfl) two_cells ?_)
    intro w4 hb4 hbut4
    have hc4 := hbut4.chg
    have hz4 := hbut4.size
    repeat' (first|refine X.O ?_|refine X.A ?_|refine X.B ?_|refine X.C ?_|refine X.D ?_|refine X.E ?_|refine X.F ?_|refine X.G ?_|refine X.H ?_|refine X.I ?_|fail)
    have e : inverseTableau x = (([], []), 1) := by simp [inverseTableau, hbad]
    rw [e]
    refine ⟨_, retS1 rfl (by rfl) hb4 (by rfl) (by rfl), _, rfl, ?_, ?_⟩
    · exact OwT.mk (m := w.heap.size) (x := ([], [])) ⟨[], Own.nil _ _ _, fun k hk => by simp [Value.ownBlock] at hk, by omega, rfl, fun i u xs hu => by simp at hu, fun i j u u' _ hu => by simp at hu, by decide⟩ ⟨Own.nil _ _ _, fun k hk => by simp [Value.ownBlock] at hk, Nat.le_refl _⟩ (Nat.le_refl _) (by omega)
    · refine ⟨by rw [hc4.os, hc3.os, hc2.os], by rw [hc4.tape, hc3.tape, hc2.tape], by rw [hc4.output, hc3.output, hc2.output], by omega, fun k hk hd => ?_⟩
      rw [hc4.block k (by omega) (by omega), hc3.block k (by omega) (by omega), hc2.block k hk (by omega)]
  · rename_i hok
    repeat' (first|refine X.O ?_|refine X.A ?_|refine X.B ?_|refine X.C ?_|refine X.D ?_|refine X.E ?_|refine X.F ?_|refine X.G ?_|refine X.H ?_|refine X.I ?_|fail)
    refine WL.step (o_loadS (by rfl) hb1 (by rfl) ?_)
    refine WL.call (l10Inverse_any hT (isTab_iff hok)) ?_
    rintro v4 w4 ⟨oT, hc4⟩
    have hz4 := hc4.size
    replace hb2 := hb2.chg0 hc4
    obtain ⟨aq, nq, cq, ar, nr, cr, rfl⟩ := oT.cells
    refine WL.step (o_storeS (vs := [.slice aq nq cq, .slice ar nr cr]) (by rfl) (by rfl) hb2 (by rfl) (by rfl) two_cells ?_)
    intro w5 hb5 hbut5
    have hc5 := hbut5.chg
    have hz5 := hbut5.size
    repeat' (first|refine X.O ?_|refine X.A ?_|refine X.B ?_|refine X.C ?_|refine X.D ?_|refine X.E ?_|refine X.F ?_|refine X.G ?_|refine X.H ?_|refine X.I ?_|fail)
    have e : inverseTableau x = (inverseL x, 0) := by simp [inverseTableau, hok]
    rw [e]
    refine ⟨_, retS1 rfl (by rfl) hb5 (by rfl) (by rfl), _, rfl, ?_, ?_⟩
    · exact (oT.chg hc5 (by omega)).wide (by omega) (by omega) (by omega)
    · refine ⟨by rw [hc5.os, hc4.os, hc3.os, hc2.os], by rw [hc5.tape, hc4.tape, hc3.tape, hc2.tape], by rw [hc5.output, hc4.output, hc3.output, hc2.output], by omega, fun k hk hd => ?_⟩
      rw [hc5.block k (by omega) (by omega), hc4.block k (by omega) (by omega), hc3.block k (by omega) (by omega), hc2.block k hk (by omega)]
end Go.Proofs
