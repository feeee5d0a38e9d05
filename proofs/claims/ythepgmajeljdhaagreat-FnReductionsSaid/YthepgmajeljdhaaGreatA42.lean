/- A tableau with its stages reordered, the program's way; all stages in order. -/
import Derived.Test.YthepgmajeljdhaaGreatA39
import Derived.Test.YthepgmajeljdhaaGreatHB
import Derived.Test.YthepgmajeljdhaaGreatPlA
namespace Go.Proofs
open Go Go.Fw Go.RowKit Go.Rk
theorem allStages_any {lo hi : Nat} {w : World} {v : Value} {x : TabD} (h : IT lo hi w v x) (hm : x.2.length ≤ 1048576) :
    Does Tryz.prog 79 [v] w fun r w' => NewI w r w' (firstT x.2.length) := by
  have hz := h.hi_le
  obtain ⟨va, vb, rfl, hA, hB⟩ := h
  obtain ⟨ab, cb, hvb⟩ := hB.shape
  subst hvb
  refine Does.enter Tryz.func79 Tryz.ntmps79 rfl (by rfl) ?_
  repeat' (first|refine X.O ?_|refine X.A ?_|refine X.B ?_|refine X.C ?_|refine X.D ?_|refine X.E ?_|refine X.F ?_|refine X.G ?_|refine X.H ?_|refine X.I ?_|fail)
  refine WL.step (o_box (by rfl) ?_)
  intro w1 hb1 hbl1 hz1
  repeat' (first|refine X.O ?_|refine X.A ?_|refine X.B ?_|refine X.C ?_|refine X.D ?_|refine X.E ?_|refine X.F ?_|refine X.G ?_|refine X.H ?_|refine X.I ?_|fail)
  refine WL.step (o_lit (us := []) (by rfl) (by rfl) rfl (by decide) one0 ?_)
  intro v2 w2 hown2 hbl2 hz2 _
  have hb2 := hb1.below hbl2 (by omega)
  obtain ⟨res, hres⟩ : ∃ res, firstT x.2.length = res := ⟨_, rfl⟩
  have hrl : res.length = x.2.length := by rw [← hres]; exact firstT_length _
  rw [hres]
  repeat' (first|refine X.O ?_|refine X.A ?_|refine X.B ?_|refine X.C ?_|refine X.D ?_|refine X.E ?_|refine X.F ?_|refine X.G ?_|refine X.H ?_|refine X.I ?_|fail)
  refine WL.fld hb2 ?_
  intro p1
  repeat' (first|refine X.O ?_|refine X.A ?_|refine X.B ?_|refine X.C ?_|refine X.D ?_|refine X.E ?_|refine X.F ?_|refine X.G ?_|refine X.H ?_|refine X.I ?_|fail)
  refine WP.loop (fun (s : Nat × Value) => [(3, s.2), (8, .int .i64 (x.2.length : Nat)), (9, .int .i64 (s.1 : Nat))])
    (fun s w3 => s.1 ≤ x.2.length ∧ Own w1.heap.size 2 w3 s.2 (Ints (res.take s.1)) ∧ Below w1.heap.size w2 w3)
    (fun s => x.2.length - s.1) (0, v2) ⟨rfl, rfl, rfl, trivial⟩ ⟨by dsimp only; omega, by simpa [Ints] using hown2, Below.refl _ _⟩ ?_
  rintro ⟨i, vo⟩ w3 ⟨hi1, hown3, hbl3⟩
  dsimp only at hi1 hown3 ⊢
  have hz3 := hbl3.size
  repeat' (first|refine X.O ?_|refine X.A ?_|refine X.B ?_|refine X.C ?_|refine X.D ?_|refine X.E ?_|refine X.F ?_|refine X.G ?_|refine X.H ?_|refine X.I ?_|fail)
  first|refine X.J (fun _ => ?_) (fun _ => ?_)|refine X.L (fun _ => ?_) (fun _ => ?_)|refine X.M (fun _ => ?_) (fun _ => ?_)|refine X.R (fun _ => ?_) (fun _ => ?_)|fail
  · rename_i hlt
    have hli : i < x.2.length := by omega
    repeat' (first|refine X.O ?_|refine X.A ?_|refine X.B ?_|refine X.C ?_|refine X.D ?_|refine X.E ?_|refine X.F ?_|refine X.G ?_|refine X.H ?_|refine X.I ?_|fail)
    refine o_append1 (u := .int .i64 (i : Nat)) (fun _ => by rfl) (by rfl) hown3 rfl (by simp [Ints, hrl, maxLen]; omega) (by simp [Ints, hrl]; omega) (by omega) ?_
    intro p2 v4 w4 hown4 hbl4 _ hz4 _
    repeat' (first|refine X.O ?_|refine X.A ?_|refine X.B ?_|refine X.C ?_|refine X.D ?_|refine X.E ?_|refine X.F ?_|refine X.G ?_|refine X.H ?_|refine X.I ?_|fail)
    refine ⟨(i + 1, v4), ⟨rfl, rfl, (by first|rfl|exact X.T (by omega)), trivial⟩, ⟨by dsimp only; omega, ?_, hbl3.trans hbl4⟩, by dsimp only; omega⟩
    dsimp only
    rw [← Ints_snoc (show i < res.length by omega) (y := ((i : Nat) : Int)) (by subst hres; exact firstT_get _)]
    exact hown4
  · rename_i hge
    rw [List.take_of_length_le (by omega)] at hown3
    repeat' (first|refine X.O ?_|refine X.A ?_|refine X.B ?_|refine X.C ?_|refine X.D ?_|refine X.E ?_|refine X.F ?_|refine X.G ?_|refine X.H ?_|refine X.I ?_|fail)
    refine ⟨_, ret1 rfl (by rfl), ?_⟩
    exact ⟨hown3.lower (by omega), (hbl1.trans (Below.mono hbl2 (by omega))).trans (Below.mono hbl3 (by omega))⟩
set_option maxHeartbeats 4000000 in
theorem reordered_any {lo hi lo' hi' : Nat} {w : World} {v v' : Value} {x : TabD} {order : List Int} (h : IT lo hi w v x) (h' : IS lo' hi' w v' order) (hx : Tab x) (hord : OrdOk x.2.length order) (hn : order.length ≤ 8) :
    Does Tryz.prog 52 [v, v'] w fun r w' => OwT 25 2 w.heap.size w'.heap.size w' r (permL x order) ∧ Chg 0 0 w w' := by
  have hz := h.hi_le
  have hz' := h'.hi_le
  obtain ⟨va, vb, rfl, hA, hB⟩ := h
  obtain ⟨ao, co, hvo⟩ := h'.shape
  subst hvo
  have hm := hx.le8
  have hsq := hx.sq
  have hl1 := permL_len1 x order
  have hl2 := permL_len2 x order
  refine Does.enter Tryz.func52 Tryz.ntmps52 rfl (by rfl) ?_
  repeat' (first|refine X.O ?_|refine X.A ?_|refine X.B ?_|refine X.C ?_|refine X.D ?_|refine X.E ?_|refine X.F ?_|refine X.G ?_|refine X.H ?_|refine X.I ?_|fail)
  refine WL.step (o_box (by rfl) ?_)
  intro w1 hb1 hbl1 hz1
  refine WL.step (o_alloc ?_)
  intro w2 hb2 hbl2 hz2
  repeat' (first|refine X.O ?_|refine X.A ?_|refine X.B ?_|refine X.C ?_|refine X.D ?_|refine X.E ?_|refine X.F ?_|refine X.G ?_|refine X.H ?_|refine X.I ?_|fail)
  refine WL.step (o_build (us := []) (cells := [.slice none 0 0, .slice none 0 0]) (by rfl) (by kernel_rfl) ?_)
  refine WL.step (o_alloc ?_)
  intro w3 hb3 hbl3 hz3
  refine WL.step (o_storeS (vs := [.slice none 0 0, .slice none 0 0]) (by rfl) (by rfl) hb3 (by rfl) (by rfl) two_cells ?_)
  intro w4 hb4 hbut4
  have hz4 := hbut4.size
  have hbl13 : Below w.heap.size w w3 := hbl1.trans ((Below.mono hbl2 (by omega)).trans (Below.mono hbl3 (by omega)))
  have hbl14 : Below w.heap.size w w4 := hbl13.trans (hbut4.below (by omega))
  have hb14 := ((hb1.below hbl2 (by omega)).below hbl3 (by omega)).keep (hbut4.block _ (by omega))
  have hb24 := (hb2.below hbl3 (by omega)).keep (hbut4.block _ (by omega))
  have hA4 := hA.below IS.stable hbl14 hz
  have hB4 := hB.below RI.stable hbl14 hz
  have hO4 := h'.below RI.stable hbl14 hz'
  repeat' (first|refine X.O ?_|refine X.A ?_|refine X.B ?_|refine X.C ?_|refine X.D ?_|refine X.E ?_|refine X.F ?_|refine X.G ?_|refine X.H ?_|refine X.I ?_|fail)
  refine WP.loop (fun (s : Nat × Value × Value) => [(1, .slice ao order.length co), (2, .pointer (some ⟨w.heap.size, 0, none⟩)), (4, .pointer (some ⟨w1.heap.size, 0, none⟩)), (5, .pointer (some ⟨w2.heap.size, 0, none⟩)), (12, .slice ao order.length co), (13, .int .i64 (order.length : Nat)), (14, .int .i64 (s.1 : Nat))])
    (fun s w5 => s.1 ≤ order.length ∧ s.2.1.oneCell' = true ∧ s.2.2.oneCell' = true ∧ Blk w5 w2.heap.size [s.2.1, s.2.2] 27 ∧ (∃ vs, OwSSv 25 2 w4.heap.size w5.heap.size w5 s.2.1 vs ((permL x order).1.take s.1) ∧ ∀ (j : Nat) u, vs[j]? = some u → ∀ k, u.ownBlock = some k → s.2.2.ownBlock ≠ some k) ∧ OwI 2 w4.heap.size w5.heap.size w5 s.2.2 ((permL x order).2.take s.1) ∧ Chg w2.heap.size w4.heap.size w4 w5)
    (fun s => order.length - s.1) (0, .slice none 0 0, .slice none 0 0) ⟨rfl, rfl, rfl, rfl, rfl, rfl, rfl, trivial⟩ ⟨by dsimp only; omega, rfl, rfl, hb4, ⟨[], OwSSv.none (Own.nil _ _ _) (by decide), fun j u hu => by simp at hu⟩, ⟨Own.nil _ _ _, fun k hk => by simp [Value.ownBlock] at hk, Nat.le_refl _⟩, Chg.refl _ _ _⟩ ?_
  rintro ⟨i, vA, vB⟩ w5 ⟨hi1, hone1, hone2, hb5, ⟨vs, oA, hap⟩, oB, hc5⟩
  dsimp only at hi1 hone1 hone2 hb5 oA hap oB ⊢
  have hz5 := hc5.size
  have hvl : vs.length = i := by rw [oA.len, List.length_take]; omega
  have hA5 := ISS.chg hA4 hc5 (by omega)
  have hB5 := RI.chg hB4 hc5 (by omega)
  have hO5 := RI.chg hO4 hc5 (by omega)
  have hb15 := hb14.chg hc5 (by omega)
  repeat' (first|refine X.O ?_|refine X.A ?_|refine X.B ?_|refine X.C ?_|refine X.D ?_|refine X.E ?_|refine X.F ?_|refine X.G ?_|refine X.H ?_|refine X.I ?_|fail)
  first|refine X.J (fun _ => ?_) (fun _ => ?_)|refine X.L (fun _ => ?_) (fun _ => ?_)|refine X.M (fun _ => ?_) (fun _ => ?_)|refine X.R (fun _ => ?_) (fun _ => ?_)|fail
  · rename_i hlt
    have hli : i < order.length := by omega
    have hoi := hord.get hli
    have hoia : order[i].toNat < x.1.length := by omega
    have hoib : order[i].toNat < x.2.length := by omega
    have hrow := hx.row _ (List.getElem_mem hoia)
    obtain ⟨pr, hpr⟩ : ∃ pr, permRow x order order[i] = pr := ⟨_, rfl⟩
    have hprl : pr.length = order.length := by rw [← hpr]; exact permRow_length _ _ _
    repeat' (first|refine X.O ?_|refine X.A ?_|refine X.B ?_|refine X.C ?_|refine X.D ?_|refine X.E ?_|refine X.F ?_|refine X.G ?_|refine X.H ?_|refine X.I ?_|fail)
    refine WL.ixload hO5 (List.getElem?_eq_getElem hli) ?_
    rintro q1 _ rfl
    repeat' (first|refine X.O ?_|refine X.A ?_|refine X.B ?_|refine X.C ?_|refine X.D ?_|refine X.E ?_|refine X.F ?_|refine X.G ?_|refine X.H ?_|refine X.I ?_|fail)
    refine WL.step (o_lit (us := []) (by rfl) (by rfl) rfl (by decide) one0 ?_)
    intro v6 w6 hown6 hbl6 hz6 _
    repeat' (first|refine X.O ?_|refine X.A ?_|refine X.B ?_|refine X.C ?_|refine X.D ?_|refine X.E ?_|refine X.F ?_|refine X.G ?_|refine X.H ?_|refine X.I ?_|fail)
    refine WP.loop (fun (s : Nat × Value) => [(1, .slice ao order.length co), (2, .pointer (some ⟨w.heap.size, 0, none⟩)), (4, .pointer (some ⟨w1.heap.size, 0, none⟩)), (5, .pointer (some ⟨w2.heap.size, 0, none⟩)), (12, .slice ao order.length co), (13, .int .i64 (order.length : Nat)), (14, .int .i64 (i : Nat)), (7, .int .i64 order[i]), (8, s.2), (19, .slice ao order.length co), (20, .int .i64 (order.length : Nat)), (21, .int .i64 (s.1 : Nat))])
      (fun s w7 => s.1 ≤ order.length ∧ Own w5.heap.size 2 w7 s.2 (Ints (pr.take s.1)) ∧ Below w5.heap.size w5 w7)
      (fun s => order.length - s.1) (0, v6) ⟨rfl, rfl, rfl, rfl, rfl, rfl, rfl, rfl, rfl, rfl, rfl, rfl, trivial⟩ ⟨by dsimp only; omega, by simpa [Ints] using hown6, hbl6⟩ ?_
    rintro ⟨k, vr⟩ w7 ⟨hk, hown7, hbl7⟩
    dsimp only at hk hown7 ⊢
    have hz7 := hbl7.size
    have hA7 := hA5.below IS.stable hbl7 (by omega)
    have hO7 := hO5.below RI.stable hbl7 (by omega)
    have hb17 := hb15.below hbl7 (by omega)
    repeat' (first|refine X.O ?_|refine X.A ?_|refine X.B ?_|refine X.C ?_|refine X.D ?_|refine X.E ?_|refine X.F ?_|refine X.G ?_|refine X.H ?_|refine X.I ?_|fail)
    first|refine X.J (fun _ => ?_) (fun _ => ?_)|refine X.L (fun _ => ?_) (fun _ => ?_)|refine X.M (fun _ => ?_) (fun _ => ?_)|refine X.R (fun _ => ?_) (fun _ => ?_)|fail
    · rename_i hltk
      have hlk : k < order.length := by omega
      have hok := hord.get hlk
      have hokr : order[k].toNat < x.1[order[i].toNat].length := by omega
      repeat' (first|refine X.O ?_|refine X.A ?_|refine X.B ?_|refine X.C ?_|refine X.D ?_|refine X.E ?_|refine X.F ?_|refine X.G ?_|refine X.H ?_|refine X.I ?_|fail)
      refine WL.ixload hO7 (List.getElem?_eq_getElem hlk) ?_
      rintro q2 _ rfl
      repeat' (first|refine X.O ?_|refine X.A ?_|refine X.B ?_|refine X.C ?_|refine X.D ?_|refine X.E ?_|refine X.F ?_|refine X.G ?_|refine X.H ?_|refine X.I ?_|fail)
      refine WL.fld hb17 ?_
      intro q3
      repeat' (first|refine X.O ?_|refine X.A ?_|refine X.B ?_|refine X.C ?_|refine X.D ?_|refine X.E ?_|refine X.F ?_|refine X.G ?_|refine X.H ?_|refine X.I ?_|fail)
      refine WL.ixload (j := order[i].toNat) hA7 (List.getElem?_eq_getElem hoia) ?_
      intro q4 u hu
      repeat' (first|refine X.O ?_|refine X.A ?_|refine X.B ?_|refine X.C ?_|refine X.D ?_|refine X.E ?_|refine X.F ?_|refine X.G ?_|refine X.H ?_|refine X.I ?_|fail)
      refine WL.ixload (j := order[k].toNat) hu (List.getElem?_eq_getElem hokr) ?_
      rintro q5 _ rfl
      refine o_append1 (u := .int .i64 x.1[order[i].toNat][order[k].toNat]) (fun _ => by rfl) (by rfl) hown7 rfl (by simp [Ints, hprl, maxLen]; omega) (by simp [Ints, hprl]; omega) (by omega) ?_
      intro q6 v8 w8 hown8 hbl8 _ hz8 _
      repeat' (first|refine X.O ?_|refine X.A ?_|refine X.B ?_|refine X.C ?_|refine X.D ?_|refine X.E ?_|refine X.F ?_|refine X.G ?_|refine X.H ?_|refine X.I ?_|fail)
      refine ⟨(k + 1, v8), ⟨rfl, rfl, rfl, rfl, rfl, rfl, rfl, rfl, rfl, rfl, rfl, (by first|rfl|exact X.T (by omega)), trivial⟩, ⟨by dsimp only; omega, ?_, hbl7.trans hbl8⟩, by dsimp only; omega⟩
      dsimp only
      rw [← Ints_snoc (show k < pr.length by omega) (y := x.1[order[i].toNat][order[k].toNat]) (by subst hpr; rw [permRow_get _ hlk, at2_eq hoia hokr])]
      exact hown8
    · rename_i hgek
      rw [List.take_of_length_le (by omega)] at hown7
      obtain ⟨ar, cr, hvr, _⟩ := hown7.shape
      have oA7 := oA.chg (Chg.of_below hbl7) (by omega)
      have oB7 := oB.chg (Chg.of_below hbl7) (by omega)
      have hb57 := hb5.below hbl7 hb5.lt
      have hB7 := hB5.below RI.stable hbl7 (by omega)
      repeat' (first|refine X.O ?_|refine X.A ?_|refine X.B ?_|refine X.C ?_|refine X.D ?_|refine X.E ?_|refine X.F ?_|refine X.G ?_|refine X.H ?_|refine X.I ?_|fail)
      refine WP.forkedL (fun w' => Below w4.heap.size w7 w' ∧ w7.heap.size ≤ w'.heap.size) [15, 16, 17] (.q 0 (.q 1 (.q 2 (.q 5 (.q 6 (.q 7 (.q 8 (.q 9 (.q 10 (.q 11 (.two 3 (.two 4 (.q 14 (.o 12 (.o 13 (.o 15 (.o 16 (.o 17 .nil)))))) 12 (.o 4 (.q 14 (.o 13 (.o 15 (.o 16 (.o 17 .nil))))))) 12 (.o 3 (.o 4 (.q 14 (.o 13 (.o 15 (.o 16 (.o 17 .nil)))))))))))))))))) (by kernel_rfl) mixed ?_
      intro w8 hs8
      have hz8 := hs8.size
      have hS8 : Below w4.heap.size w7 w8 ∧ w7.heap.size ≤ w8.heap.size := ⟨hs8.below _, by omega⟩
      have hbl78 : Below w7.heap.size w7 w8 := hs8.below _
      refine WV.fld rfl rfl (fun w' h => hb57.below h.1 (by omega)) hS8 ?_
      intro p1
      refine WV.q rfl (q_s (by rfl)) hS8 ?_
      refine WV.fld rfl rfl (fun w' h => hb57.below h.1 (by omega)) hS8 ?_
      intro p2
      refine WV.fld rfl rfl (fun w' h => hb17.below h.1 (by omega)) hS8 ?_
      intro p3
      refine WV.q rfl (q_s (by rfl)) hS8 ?_
      refine WV.ixload (j := order[i].toNat) rfl rfl (hB7.still RI.stable hs8) (List.getElem?_eq_getElem hoib) (fun w' hw' => same_below hS8.1 hw'.1 (by omega)) hS8 ?_
      rintro p4 _ rfl
      have oA8 := oA7.chg (Chg.of_still hs8) (by omega)
      have oB8 := oB7.chg (Chg.of_still hs8) (by omega)
      have hown8 := hown7.still hs8
      have hb58 := hb57.still hs8
      have hp0 : (⟨w2.heap.size, 0, none⟩ : Addr).add 0 = ⟨w2.heap.size, 0, none⟩ := by unfold Addr.add; split <;> simp_all
      have hap8 : ∀ (j : Nat) u, (vs ++ [vr])[j]? = some u → ∀ k, u.ownBlock = some k → vB.ownBlock ≠ some k := fun j u hu k hk e => by
        rw [List.getElem?_append] at hu
        split at hu
        · exact hap j u hu k hk e
        · have : u = vr := by
            have hlt := (List.getElem?_eq_some_iff.1 hu).1
            simp only [List.length_singleton] at hlt
            have hj0 : j - vs.length = 0 := by omega
            rw [hj0] at hu
            simpa using hu.symm
          subst this
          have h1 := (hown7.block k hk).1
          have h2 := oB.lt k e
          omega
      have e1 : (permL x order).1.take (i + 1) = (permL x order).1.take i ++ [pr] := take_snoc (by omega) (by subst hpr; simp [permL])
      have e2 : Ints ((permL x order).2.take (i + 1)) = Ints ((permL x order).2.take i) ++ [.int .i64 x.2[order[i].toNat]] := (Ints_snoc (show i < (permL x order).2.length by omega) (by simp [permL, List.getElem?_eq_getElem hoib])).symm
      -- behind the first append
      have hgrow : ∀ (u u9 : World) (v9 : Value), Below w8.heap.size w8 u → Own w4.heap.size 25 u9 v9 (vs ++ [vr]) → u.grownBy u9 vA.ownBlock → Below w4.heap.size u u9 →
          OwSSv 25 2 w4.heap.size u9.heap.size u9 v9 (vs ++ [vr]) ((permL x order).1.take (i + 1)) ∧ OwI 2 w4.heap.size w5.heap.size u9 vB ((permL x order).2.take i) ∧ Blk u9 w2.heap.size [vA, vB] 27 ∧ (Below w4.heap.size w7 u9 ∧ w7.heap.size ≤ u9.heap.size) ∧ ∀ k, w8.heap.size ≤ k → k < u.heap.size → u9.heap[k]? = u.heap[k]? := fun u u9 v9 hbu hown9 hg9 hbl9 => by
        have hzu := hbu.size
        have hz9 := hg9.size
        have hf : ∀ k, k < u.heap.size → vA.ownBlock ≠ some k → u9.heap[k]? = u.heap[k]? := fun k hk hne => hg9.block k hk (fun e => hne e.symm)
        have oAu := oA8.chg (Chg.of_below hbu) (by omega)
        have oBu := oB8.chg (Chg.of_below hbu) (by omega)
        have hownu := hown8.below hbu (Nat.le_refl _)
        have hbu5 := hb58.below hbu hb58.lt
        refine ⟨?_, ⟨oBu.own.keep fun k hk => hf k (oBu.own.block k hk).2 (fun e => oAu.own.ne_block oBu.own oAu.ne e hk), oBu.lt, by omega⟩, hbu5.keep (hf _ (by omega) (fun e => oAu.own.off_blk hbu5 (by decide) e rfl)), ⟨(Below.mono (hbl78.trans (Below.mono hbu (by omega))) (by omega)).trans hbl9, by omega⟩, fun k h1 h2 => hf k h2 (fun e => by have := oAu.lt k e; omega)⟩
        rw [e1]
        exact oAu.snoc (⟨hownu, fun k hk => (hownu.block k hk).2, Nat.le_refl _⟩ : OwI 2 w5.heap.size u.heap.size u vr pr) (by omega) (by omega) hown9 (by omega) hf
      refine WV.via (fun l' u => ∃ v9 litB, Agree l' [(1, .slice ao order.length co), (2, .pointer (some ⟨w.heap.size, 0, none⟩)), (4, .pointer (some ⟨w1.heap.size, 0, none⟩)), (5, .pointer (some ⟨w2.heap.size, 0, none⟩)), (12, .slice ao order.length co), (13, .int .i64 (order.length : Nat)), (14, .int .i64 (i : Nat)), (43, vB), (49, litB), (41, v9), (51, .pointer (some ⟨w2.heap.size, 0, none⟩))] ∧
          OwSSv 25 2 w4.heap.size u.heap.size u v9 (vs ++ [vr]) ((permL x order).1.take (i + 1)) ∧ OwI 2 w4.heap.size w5.heap.size u vB ((permL x order).2.take i) ∧ Blk u w2.heap.size [vA, vB] 27 ∧ Own w8.heap.size 2 u litB [.int .i64 x.2[order[i].toNat]] ∧ Below w4.heap.size w7 u ∧ w7.heap.size ≤ u.heap.size)
        (.o 13 (.o 15 (.o 16 (.o 17 .nil)))) ?_ (fun fin => ?_)
      · rintro l' u ⟨v9, litB, hag, o9, oB9, hb9, hlit, hblu, hzu⟩
        refine WV.frame _ hag ?_
        clear hag
        obtain ⟨a9, c9, hv9, _⟩ := o9.own.shape
        refine WV.o rfl (o_appendK (us := Ints ((permL x order).2.take i)) (news := [.int .i64 x.2[order[i].toNat]]) (by rfl) (by rfl) oB9.own hlit.src (one1 rfl) (by simp [Ints, hl2, maxLen]; omega) (by simp [Ints, hl2]; omega) (by omega) (by simp) ?_)
        intro v12 w12 hown12 hg12 hbl12 hk12
        have hz12 := hg12.size
        refine ⟨⟨hblu.trans hbl12, by omega⟩, ?_⟩
        obtain ⟨a12, c12, hv12, _⟩ := hown12.shape
        have hb12 := hb9.below hbl12 (by omega)
        refine WV.late rfl (o_store (by rfl) (by rfl) (hb12.cell (j := 0) rfl) (hb12.free 0) ?_ (by rw [hv9]; rfl))
        have hb13 := hb12.set 0 v9
        have hbut13 := But.setCell w12 w2.heap.size 0 v9
        obtain ⟨w13, hw13⟩ : ∃ w13, w12.setCell ⟨w2.heap.size, 0, none⟩ v9 = w13 := ⟨_, rfl⟩
        rw [hw13] at hb13 hbut13 ⊢
        have hz13 := hbut13.size
        refine WV.fldst rfl rfl hb13 ?_ (hu := by rw [hv12]; rfl)
        intro p5 w14 hb14' hbut14
        have hz14 := hbut14.size
        refine WV.nil ?_
        have o12 : OwSSv 25 2 w4.heap.size w12.heap.size w12 v9 (vs ++ [vr]) ((permL x order).1.take (i + 1)) :=
          (o9.keepBut2 oB9.own (fun j u hu k hk e => hap8 j u hu k hk e) hz12 (fun k hk hne => hg12.block k hk (fun e => hne e.symm))).wide (Nat.le_refl _) (by omega) (Nat.le_refl _)
        have hap12 : ∀ (j : Nat) u, (vs ++ [vr])[j]? = some u → ∀ k, u.ownBlock = some k → v12.ownBlock ≠ some k := fun j u' hu k hk e => by
          rcases hk12 k e with h1 | h1
          · exact hap8 j u' hu k hk h1
          · obtain ⟨xs, hx2⟩ : ∃ xs, ((permL x order).1.take (i + 1))[j]? = some xs := ⟨_, List.getElem?_eq_getElem (by rw [← o9.len]; exact (List.getElem?_eq_some_iff.1 hu).1)⟩
            have := (o9.rows j u' xs hu hx2).lt k hk
            omega
        have hc5 : Chg w2.heap.size w4.heap.size w4 w5 := hc5
        have hbl512 : Below w4.heap.size w5 w12 := ((Below.mono hbl7 (by omega)).trans hblu).trans hbl12
        have hc14 : Chg w2.heap.size w4.heap.size w4 w14 := ((hc5.thenBelow hbl512).thenBut hbut13 (Nat.le_refl _) (by omega)).thenBut hbut14 (Nat.le_refl _) (by omega)
        have hcc : Chg w2.heap.size w4.heap.size w12 w14 := (((Chg.refl _ _ _).thenBut hbut13 (Nat.le_refl _) (by omega))).thenBut hbut14 (Nat.le_refl _) (by omega)
        repeat' (first|refine X.O ?_|refine X.A ?_|refine X.B ?_|refine X.C ?_|refine X.D ?_|refine X.E ?_|refine X.F ?_|refine X.G ?_|refine X.H ?_|refine X.I ?_|fail)
        refine ⟨(i + 1, v9, v12), ⟨rfl, rfl, rfl, rfl, rfl, rfl, (by first|rfl|exact X.T (by omega)), trivial⟩, ⟨by dsimp only; omega, by rw [hv9]; rfl, by rw [hv12]; rfl, hb14', ⟨_, (o12.chg hcc (by omega)).wide (Nat.le_refl _) (by omega) (Nat.le_refl _), hap12⟩, ?_, hc14⟩, by dsimp only; omega⟩
        have oN : OwI 2 w4.heap.size w12.heap.size w12 v12 ((permL x order).2.take (i + 1)) := ⟨by rw [e2]; exact hown12, fun k hk => (hown12.block k hk).2, Nat.le_refl _⟩
        exact (oN.chg hcc (by omega)).wide (Nat.le_refl _) (by omega) (Nat.le_refl _)
      · refine WV.two rfl rfl (o_lit (us := [vr]) (by rfl) (by rfl) rfl (by decide) (one1 (by rw [hvr]; rfl)) ?_) (o_lit (us := [.int .i64 x.2[order[i].toNat]]) (by rfl) (by rfl) rfl (by decide) (one1 rfl) ?_)
        · intro vl u1 hl1' hbu1 hzu1 _
          have hS1 : Below w4.heap.size w7 u1 ∧ w7.heap.size ≤ u1.heap.size := ⟨hS8.1.trans (Below.mono hbu1 (by omega)), by omega⟩
          refine ⟨hS1, ?_⟩
          have oAu := oA8.chg (Chg.of_below hbu1) (by omega)
          refine WV.two rfl rfl (o_append (us := vs) (news := [vr]) (by rfl) (by rfl) oAu.own hl1'.src (one1 (by rw [hvr]; rfl)) (by simp [hvl, maxLen]; omega) (by simp [hvl]; omega) (by omega) ?_) (o_lit (us := [.int .i64 x.2[order[i].toNat]]) (by rfl) (by rfl) rfl (by decide) (one1 rfl) ?_)
          · intro v9 u9 hown9 hg9 hbl9 _
            obtain ⟨o9, oB9, hb9, hS9, _⟩ := hgrow u1 u9 v9 hbu1 hown9 hg9 hbl9
            refine ⟨hS9, ?_⟩
            refine WV.q rfl (q_field (a := ⟨w2.heap.size, 0, none⟩) (by rfl)) hS9 ?_
            rw [hp0]
            refine WV.o rfl (o_lit (us := [.int .i64 x.2[order[i].toNat]]) (by rfl) (by rfl) rfl (by decide) (one1 rfl) ?_)
            intro vl2 u2 hl2' hbu2 hzu2 _
            have hS2 : Below w4.heap.size w7 u2 ∧ w7.heap.size ≤ u2.heap.size := ⟨hS9.1.trans (Below.mono hbu2 (by omega)), by omega⟩
            refine ⟨hS2, ?_⟩
            exact fin _ u2 ⟨v9, vl2, ⟨rfl, rfl, rfl, rfl, rfl, rfl, rfl, rfl, rfl, rfl, rfl, trivial⟩, (o9.chg (Chg.of_below hbu2) (by omega)).wide (Nat.le_refl _) (by omega) (Nat.le_refl _), oB9.chg (Chg.of_below hbu2) (by omega), hb9.below hbu2 hb9.lt, hl2'.lower (by omega), hS2⟩
          · intro vl2 u2 hl2' hbu2 hzu2 _
            have hS2 : Below w4.heap.size w7 u2 ∧ w7.heap.size ≤ u2.heap.size := ⟨hS1.1.trans (Below.mono hbu2 (by omega)), by omega⟩
            refine ⟨hS2, ?_⟩
            have hbu12 : Below w8.heap.size w8 u2 := hbu1.trans (Below.mono hbu2 (by omega))
            have oAu2 := oA8.chg (Chg.of_below hbu12) (by omega)
            refine WV.o rfl (o_append (us := vs) (news := [vr]) (by rfl) (by rfl) oAu2.own (hl1'.below hbu2 (Nat.le_refl _)).src (one1 (by rw [hvr]; rfl)) (by simp [hvl, maxLen]; omega) (by simp [hvl]; omega) (by omega) ?_)
            intro v9 u9 hown9 hg9 hbl9 _
            obtain ⟨o9, oB9, hb9, hS9, hkp⟩ := hgrow u2 u9 v9 hbu12 hown9 hg9 hbl9
            refine ⟨hS9, ?_⟩
            refine WV.q rfl (q_field (a := ⟨w2.heap.size, 0, none⟩) (by rfl)) hS9 ?_
            rw [hp0]
            exact fin _ u9 ⟨v9, vl2, ⟨rfl, rfl, rfl, rfl, rfl, rfl, rfl, rfl, rfl, rfl, rfl, trivial⟩, o9, oB9, hb9, (hl2'.keep fun k hk => hkp k (by have := (hl2'.block k hk).1; omega) (hl2'.block k hk).2).lower (by omega), hS9⟩
        · intro vl2 u1 hl2' hbu1 hzu1 _
          have hS1 : Below w4.heap.size w7 u1 ∧ w7.heap.size ≤ u1.heap.size := ⟨hS8.1.trans (Below.mono hbu1 (by omega)), by omega⟩
          refine ⟨hS1, ?_⟩
          refine WV.o rfl (o_lit (us := [vr]) (by rfl) (by rfl) rfl (by decide) (one1 (by rw [hvr]; rfl)) ?_)
          intro vl u2 hl1' hbu2 hzu2 _
          have hS2 : Below w4.heap.size w7 u2 ∧ w7.heap.size ≤ u2.heap.size := ⟨hS1.1.trans (Below.mono hbu2 (by omega)), by omega⟩
          refine ⟨hS2, ?_⟩
          have hbu12 : Below w8.heap.size w8 u2 := hbu1.trans (Below.mono hbu2 (by omega))
          have oAu2 := oA8.chg (Chg.of_below hbu12) (by omega)
          have hl2u := hl2'.below hbu2 (Nat.le_refl _)
          refine WV.o rfl (o_append (us := vs) (news := [vr]) (by rfl) (by rfl) oAu2.own hl1'.src (one1 (by rw [hvr]; rfl)) (by simp [hvl, maxLen]; omega) (by simp [hvl]; omega) (by omega) ?_)
          intro v9 u9 hown9 hg9 hbl9 _
          obtain ⟨o9, oB9, hb9, hS9, hkp⟩ := hgrow u2 u9 v9 hbu12 hown9 hg9 hbl9
          refine ⟨hS9, ?_⟩
          refine WV.q rfl (q_field (a := ⟨w2.heap.size, 0, none⟩) (by rfl)) hS9 ?_
          rw [hp0]
          exact fin _ u9 ⟨v9, vl2, ⟨rfl, rfl, rfl, rfl, rfl, rfl, rfl, rfl, rfl, rfl, rfl, trivial⟩, o9, oB9, hb9, (hl2u.keep fun k hk => hkp k (by have := (hl2u.block k hk).1; omega) (hl2u.block k hk).2).lower (by omega), hS9⟩
  · rename_i hge
    have hie : i = order.length := by omega
    subst hie
    rw [List.take_of_length_le (by omega)] at oA oB
    have hb25 := hb24.chg hc5 (by omega)
    repeat' (first|refine X.O ?_|refine X.A ?_|refine X.B ?_|refine X.C ?_|refine X.D ?_|refine X.E ?_|refine X.F ?_|refine X.G ?_|refine X.H ?_|refine X.I ?_|fail)
    refine WL.step (o_loadS (by rfl) hb5 (by rfl) ?_)
    refine WL.step (o_storeS (vs := [vA, vB]) (by rfl) (by rfl) hb25 (by rfl) (by rfl) (fun u hu => by
      simp only [List.mem_cons, List.not_mem_nil, or_false] at hu
      rcases hu with rfl | rfl
      · exact hone1
      · exact hone2) ?_)
    intro w6 hb6 hbut6
    have hz6 := hbut6.size
    have hc6 := hbut6.chg
    repeat' (first|refine X.O ?_|refine X.A ?_|refine X.B ?_|refine X.C ?_|refine X.D ?_|refine X.E ?_|refine X.F ?_|refine X.G ?_|refine X.H ?_|refine X.I ?_|fail)
    refine ⟨_, retS rfl (by rfl) hb6 (by rfl), ⟨vA, vB, vs, rfl, (oA.chg hc6 (by omega)).wide (by omega) (by omega) (Nat.le_refl _), (oB.chg hc6 (by omega)).wide (by omega) (by omega) (Nat.le_refl _), hap⟩, ?_⟩
    have hc : Chg 0 0 w w4 := Chg.of_below hbl14
    refine ⟨by rw [hc6.os, hc5.os, hc.os], by rw [hc6.tape, hc5.tape, hc.tape], by rw [hc6.output, hc5.output, hc.output], by omega, fun k hk hd => ?_⟩
    rw [hc6.block k (by omega) (by omega), hc5.block k (by omega) (by omega), hc.block k hk (by omega)]
end Go.Proofs
