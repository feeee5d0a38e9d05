/- A tableau with its stages reordered: the reference's way. -/
import Derived.Test.YthepgmajeljdhaaGreatA21
import Derived.Test.YthepgmajeljdhaaGreatHB
import Derived.Test.YthepgmajeljdhaaGreatPlA
namespace Go.Fw
open Go Go.RowKit
/-- Another slice's numbers are written, or lie anew: the slice of slices stands. -/
theorem OwSSv.keepBut2 {e e2 : TypeId} {lo lo' hi : Nat} {w w' : World} {v u : Value} {vs us : List Value} {xss : List (List Int)} (h : OwSSv e e2 lo hi w v vs xss) (hu : Own lo' e2 w u us)
    (ap : ∀ (i : Nat) u', vs[i]? = some u' → ∀ k, u'.ownBlock = some k → u.ownBlock ≠ some k) (hz : w.heap.size ≤ w'.heap.size) (hs : ∀ j, j < w.heap.size → u.ownBlock ≠ some j → w'.heap[j]? = w.heap[j]?) : OwSSv e e2 lo hi w' v vs xss :=
  ⟨h.own.keep fun k hk => hs k (h.own.block k hk).2 (h.own.ne_block hu h.ne hk), h.lt, Nat.le_trans h.hi_le hz, h.len, fun i u' xs hu' hx => by
    have hr := h.rows i u' xs hu' hx
    exact ⟨hr.own.keep fun k hk => hs k (hr.own.block k hk).2 (ap i u' hu' k hk), hr.lt, Nat.le_trans hr.hi_le hz⟩, h.apart, h.ne⟩
theorem Own.off_blk {lo b : Nat} {e tt : TypeId} {w : World} {v : Value} {us cs : List Value} (h : Own lo e w v us) (hb : Blk w b cs tt) (hne : e ≠ tt) {k : Nat} (hk : v.ownBlock = some k) : k ≠ b := fun he => by
  obtain ⟨cur, hc⟩ := h.elem hk
  subst he
  unfold Blk at hb
  rw [hc] at hb
  simp only [Option.some.injEq, Obj.cells.injEq] at hb
  exact hne hb.2.1
end Go.Fw
namespace Go.Proofs
open Go Go.Fw Go.RowKit Go.Rk
set_option maxHeartbeats 1000000 in
theorem l10Permute_any {lo hi lo' hi' : Nat} {w : World} {v v' : Value} {x : TabD} {order : List Int} (h : IT lo hi w v x) (h' : IS lo' hi' w v' order) (hx : Tab x) (hord : OrdOk x.2.length order) (hn : order.length ≤ 8) :
    Does Tryz.prog 63 [v, v'] w fun r w' => OwT 25 2 w.heap.size w'.heap.size w' r (permL x order) ∧ Chg 0 0 w w' := by
  have hz := h.hi_le
  have hz' := h'.hi_le
  obtain ⟨va, vb, rfl, hA, hB⟩ := h
  obtain ⟨ao, co, hvo⟩ := h'.shape
  subst hvo
  have hm := hx.le8
  have hsq := hx.sq
  have hl1 := permL_len1 x order
  have hl2 := permL_len2 x order
  refine Does.enter Tryz.func63 Tryz.ntmps63 rfl (by rfl) ?_
  repeat' (first|refine X.O ?_|refine X.A ?_|refine X.B ?_|refine X.C ?_|refine X.D ?_|refine X.E ?_|refine X.F ?_|refine X.G ?_|refine X.H ?_|refine X.I ?_|fail)
  refine WL.step (o_box (by rfl) ?_)
  intro w1 hb1 hbl1 hz1
  refine WL.step (o_alloc ?_)
  intro w2 hb2 hbl2 hz2
  repeat' (first|refine X.O ?_|refine X.A ?_|refine X.B ?_|refine X.C ?_|refine X.D ?_|refine X.E ?_|refine X.F ?_|refine X.G ?_|refine X.H ?_|refine X.I ?_|fail)
  refine WL.step (o_build (us := []) (cells := [.slice none 0 0, .slice none 0 0]) (by rfl) (by kernel_rfl) ?_)
  refine WL.step (o_alloc ?_)
  intro w3 hb3 hbl3 hz3
  refine WL.step (o_storeS (vs := [.slice none 0 0, .slice none 0 0]) (by rfl) (by rfl) hb3 (by rfl) (by rfl) two_cells ?_)
  intro w4 hb4 hbut4
  have hz4 := hbut4.size
  have hbl13 : Below w.heap.size w w3 := hbl1.trans ((Below.mono hbl2 (by omega)).trans (Below.mono hbl3 (by omega)))
  have hbl14 : Below w.heap.size w w4 := hbl13.trans (hbut4.below (by omega))
  have hb14 := ((hb1.below hbl2 (by omega)).below hbl3 (by omega)).keep (hbut4.block _ (by omega))
  have hb24 := (hb2.below hbl3 (by omega)).keep (hbut4.block _ (by omega))
  have hA4 := hA.below IS.stable hbl14 hz
  have hB4 := hB.below RI.stable hbl14 hz
  have hO4 := h'.below RI.stable hbl14 hz'
  repeat' (first|refine X.O ?_|refine X.A ?_|refine X.B ?_|refine X.C ?_|refine X.D ?_|refine X.E ?_|refine X.F ?_|refine X.G ?_|refine X.H ?_|refine X.I ?_|fail)
  refine WP.loop (fun (s : Nat × Value × Value) => [(1, .slice ao order.length co), (2, .pointer (some ⟨w.heap.size, 0, none⟩)), (4, .pointer (some ⟨w1.heap.size, 0, none⟩)), (5, .pointer (some ⟨w2.heap.size, 0, none⟩)), (6, .int .i64 (s.1 : Nat))])
    (fun s w5 => s.1 ≤ order.length ∧ s.2.1.oneCell' = true ∧ s.2.2.oneCell' = true ∧ Blk w5 w2.heap.size [s.2.1, s.2.2] 27 ∧ (∃ vs, OwSSv 25 2 w4.heap.size w5.heap.size w5 s.2.1 vs ((permL x order).1.take s.1) ∧ ∀ (j : Nat) u, vs[j]? = some u → ∀ k, u.ownBlock = some k → s.2.2.ownBlock ≠ some k) ∧ OwI 2 w4.heap.size w5.heap.size w5 s.2.2 ((permL x order).2.take s.1) ∧ Chg w2.heap.size w4.heap.size w4 w5)
    (fun s => order.length - s.1) (0, .slice none 0 0, .slice none 0 0) ⟨rfl, rfl, rfl, rfl, rfl, trivial⟩ ⟨by dsimp only; omega, rfl, rfl, hb4, ⟨[], OwSSv.none (Own.nil _ _ _) (by decide), fun j u hu => by simp at hu⟩, ⟨Own.nil _ _ _, fun k hk => by simp [Value.ownBlock] at hk, Nat.le_refl _⟩, Chg.refl _ _ _⟩ ?_
  rintro ⟨i, vA, vB⟩ w5 ⟨hi1, hone1, hone2, hb5, ⟨vs, oA, hap⟩, oB, hc5⟩
  dsimp only at hi1 hone1 hone2 hb5 oA hap oB ⊢
  have hz5 := hc5.size
  have hvl : vs.length = i := by rw [oA.len, List.length_take]; omega
  have hA5 := ISS.chg hA4 hc5 (by omega)
  have hB5 := RI.chg hB4 hc5 (by omega)
  have hO5 := RI.chg hO4 hc5 (by omega)
  have hb15 := hb14.chg hc5 (by omega)
  repeat' (first|refine X.O ?_|refine X.A ?_|refine X.B ?_|refine X.C ?_|refine X.D ?_|refine X.E ?_|refine X.F ?_|refine X.G ?_|refine X.H ?_|refine X.I ?_|fail)
  first|refine X.J (fun _ => ?_) (fun _ => ?_)|refine X.L (fun _ => ?_) (fun _ => ?_)|refine X.M (fun _ => ?_) (fun _ => ?_)|refine X.R (fun _ => ?_) (fun _ => ?_)|fail
  · rename_i hlt
    have hli : i < order.length := by omega
    have hoi := hord.get hli
    have hoia : order[i].toNat < x.1.length := by omega
    have hoib : order[i].toNat < x.2.length := by omega
    have hrow := hx.row _ (List.getElem_mem hoia)
    obtain ⟨pr, hpr⟩ : ∃ pr, permRow x order order[i] = pr := ⟨_, rfl⟩
    have hprl : pr.length = order.length := by rw [← hpr]; exact permRow_length _ _ _
    repeat' (first|refine X.O ?_|refine X.A ?_|refine X.B ?_|refine X.C ?_|refine X.D ?_|refine X.E ?_|refine X.F ?_|refine X.G ?_|refine X.H ?_|refine X.I ?_|fail)
    refine WL.step (o_lit (us := []) (by rfl) (by rfl) rfl (by decide) one0 ?_)
    intro v6 w6 hown6 hbl6 hz6 _
    repeat' (first|refine X.O ?_|refine X.A ?_|refine X.B ?_|refine X.C ?_|refine X.D ?_|refine X.E ?_|refine X.F ?_|refine X.G ?_|refine X.H ?_|refine X.I ?_|fail)
    refine WP.loop (fun (s : Nat × Value) => [(1, .slice ao order.length co), (2, .pointer (some ⟨w.heap.size, 0, none⟩)), (4, .pointer (some ⟨w1.heap.size, 0, none⟩)), (5, .pointer (some ⟨w2.heap.size, 0, none⟩)), (6, .int .i64 (i : Nat)), (7, s.2), (8, .int .i64 (s.1 : Nat))])
      (fun s w7 => s.1 ≤ order.length ∧ Own w5.heap.size 2 w7 s.2 (Ints (pr.take s.1)) ∧ Below w5.heap.size w5 w7)
      (fun s => order.length - s.1) (0, v6) ⟨rfl, rfl, rfl, rfl, rfl, rfl, rfl, trivial⟩ ⟨by dsimp only; omega, by simpa [Ints] using hown6, hbl6⟩ ?_
    rintro ⟨k, vr⟩ w7 ⟨hk, hown7, hbl7⟩
    dsimp only at hk hown7 ⊢
    have hz7 := hbl7.size
    have hA7 := hA5.below IS.stable hbl7 (by omega)
    have hO7 := hO5.below RI.stable hbl7 (by omega)
    have hb17 := hb15.below hbl7 (by omega)
    repeat' (first|refine X.O ?_|refine X.A ?_|refine X.B ?_|refine X.C ?_|refine X.D ?_|refine X.E ?_|refine X.F ?_|refine X.G ?_|refine X.H ?_|refine X.I ?_|fail)
    first|refine X.J (fun _ => ?_) (fun _ => ?_)|refine X.L (fun _ => ?_) (fun _ => ?_)|refine X.M (fun _ => ?_) (fun _ => ?_)|refine X.R (fun _ => ?_) (fun _ => ?_)|fail
    · rename_i hltk
      have hlk : k < order.length := by omega
      have hok := hord.get hlk
      have hokr : order[k].toNat < x.1[order[i].toNat].length := by omega
      repeat' (first|refine X.O ?_|refine X.A ?_|refine X.B ?_|refine X.C ?_|refine X.D ?_|refine X.E ?_|refine X.F ?_|refine X.G ?_|refine X.H ?_|refine X.I ?_|fail)
      refine WP.drawn (fun w' => Below w5.heap.size w5 w') [(0, true), (1, true), (2, true), (3, true), (4, true), (5, true), (6, true), (7, true), (8, true), (9, true), (10, true), (11, true), (12, true), (13, true), (14, true), (15, false), (16, false), (17, true)] (by kernel_rfl) mixed ?_
      intro w8 hs8
      have hz8 := hs8.size
      have hS8 : Below w5.heap.size w5 w8 := hbl7.trans (hs8.below _)
      have hA8 := hA5.below IS.stable hS8 (by omega)
      have hO8 := hO5.below RI.stable hS8 (by omega)
      repeat' (first|refine X.U rfl ?_|refine X.V rfl ?_|refine X.W rfl ?_|refine X.Y rfl ?_|refine X.Z rfl ?_|refine WS.nil ?_|fail)
      refine WS.fld rfl rfl (fun w' h => hb15.below h (by omega)) hS8 ?_
      intro p1
      repeat' (first|refine X.U rfl ?_|refine X.V rfl ?_|refine X.W rfl ?_|refine X.Y rfl ?_|refine X.Z rfl ?_|refine WS.nil ?_|fail)
      refine WS.ixload rfl rfl hO8 (List.getElem?_eq_getElem hli) (fun w' hw' => same_below hS8 hw' (by omega)) hS8 ?_
      rintro p2 _ rfl
      refine WS.ixload (j := order[i].toNat) rfl rfl hA8 (List.getElem?_eq_getElem hoia) (fun w' hw' => same_below hS8 hw' (by omega)) hS8 ?_
      intro p3 u hu
      repeat' (first|refine X.U rfl ?_|refine X.V rfl ?_|refine X.W rfl ?_|refine X.Y rfl ?_|refine X.Z rfl ?_|refine WS.nil ?_|fail)
      refine WS.ixload rfl rfl hO8 (List.getElem?_eq_getElem hlk) (fun w' hw' => same_below hS8 hw' (by omega)) hS8 ?_
      rintro p4 _ rfl
      refine WS.ixload (j := order[k].toNat) rfl rfl hu (List.getElem?_eq_getElem hokr) (fun w' hw' => same_below hS8 hw' (by omega)) hS8 ?_
      rintro p5 _ rfl
      refine WS.op rfl (o_lit (us := [.int .i64 x.1[order[i].toNat][order[k].toNat]]) (by rfl) (by rfl) rfl (by decide) (one1 rfl) ?_)
      intro v9 w9 hown9 hbl9 hz9 _
      have hS9 : Below w5.heap.size w5 w9 := hS8.trans (Below.mono hbl9 (by omega))
      refine ⟨hS9, ?_⟩
      refine WS.op rfl (o_append (us := Ints (pr.take k)) (news := [.int .i64 x.1[order[i].toNat][order[k].toNat]]) (by rfl) (by rfl) ((hown7.still hs8).below hbl9 (Nat.le_refl _)) hown9.src (one1 rfl) (by simp [Ints, hprl, maxLen]; omega) (by simp [Ints, hprl]; omega) (by omega) ?_)
      intro v10 w10 hown10 hg10 hbl10 _
      have hS10 := hS9.trans hbl10
      refine ⟨hS10, ?_⟩
      repeat' (first|refine X.U rfl ?_|refine X.V rfl ?_|refine X.W rfl ?_|refine X.Y rfl ?_|refine X.Z rfl ?_|refine WS.nil ?_|fail)
      repeat' (first|refine X.O ?_|refine X.A ?_|refine X.B ?_|refine X.C ?_|refine X.D ?_|refine X.E ?_|refine X.F ?_|refine X.G ?_|refine X.H ?_|refine X.I ?_|fail)
      refine ⟨(k + 1, v10), ⟨rfl, rfl, rfl, rfl, rfl, rfl, (by first|rfl|exact X.T (by omega)), trivial⟩, ⟨by dsimp only; omega, ?_, hS10⟩, by dsimp only; omega⟩
      dsimp only
      rw [← Ints_snoc (show k < pr.length by omega) (y := x.1[order[i].toNat][order[k].toNat]) (by subst hpr; rw [permRow_get _ hlk, at2_eq hoia hokr])]
      exact hown10
    · rename_i hgek
      rw [List.take_of_length_le (by omega)] at hown7
      obtain ⟨ar, cr, hvr, _⟩ := hown7.shape
      have oA7 := oA.chg (Chg.of_below hbl7) (by omega)
      have oB7 := oB.chg (Chg.of_below hbl7) (by omega)
      have hb57 := hb5.below hbl7 hb5.lt
      repeat' (first|refine X.O ?_|refine X.A ?_|refine X.B ?_|refine X.C ?_|refine X.D ?_|refine X.E ?_|refine X.F ?_|refine X.G ?_|refine X.H ?_|refine X.I ?_|fail)
      refine WL.fld hb57 ?_
      intro p1
      repeat' (first|refine X.O ?_|refine X.A ?_|refine X.B ?_|refine X.C ?_|refine X.D ?_|refine X.E ?_|refine X.F ?_|refine X.G ?_|refine X.H ?_|refine X.I ?_|fail)
      refine o_append1 (u := vr) (fun _ => by rfl) (by rfl) oA7.own (by rw [hvr]; rfl) (by simp [hvl, maxLen]; omega) (by simp [hvl]; omega) (by omega) ?_
      intro p2 v8 w8 hown8 hbl8 hf8 hz8 _
      have o8 := oA7.snoc (⟨hown7, fun k hk => (hown7.block k hk).2, Nat.le_refl _⟩ : OwI 2 w5.heap.size w7.heap.size w7 vr pr) (by omega) (by omega) hown8 (by omega) hf8
      have oB8 : OwI 2 w4.heap.size w5.heap.size w8 vB ((permL x order).2.take i) := ⟨oB7.own.keep fun k hk => hf8 k (oB7.own.block k hk).2 (fun e => oA7.own.ne_block oB7.own oA7.ne e hk), oB7.lt, by omega⟩
      have hb58 : Blk w8 w2.heap.size [vA, vB] 27 := hb57.keep (hf8 _ (by omega) (fun e => oA7.own.off_blk hb57 (by decide) e rfl))
      have hap8 : ∀ (j : Nat) u, (vs ++ [vr])[j]? = some u → ∀ k, u.ownBlock = some k → vB.ownBlock ≠ some k := fun j u hu k hk e => by
        rw [List.getElem?_append] at hu
        split at hu
        · exact hap j u hu k hk e
        · have : u = vr := by
            have hlt := (List.getElem?_eq_some_iff.1 hu).1
            simp only [List.length_singleton] at hlt
            have hj0 : j - vs.length = 0 := by omega
            rw [hj0] at hu
            simpa using hu.symm
          subst this
          have h1 := (hown7.block k hk).1
          have h2 := oB.lt k e
          omega
      obtain ⟨a8, c8, hv8, _⟩ := hown8.shape
      repeat' (first|refine X.O ?_|refine X.A ?_|refine X.B ?_|refine X.C ?_|refine X.D ?_|refine X.E ?_|refine X.F ?_|refine X.G ?_|refine X.H ?_|refine X.I ?_|fail)
      refine WL.fldst hb58 ?_ (hu := by rw [hv8]; rfl)
      intro p3 w9 hb9 hbut9
      have hz9 := hbut9.size
      have o9 := o8.chg hbut9.chg (by omega)
      have oB9 := oB8.chg hbut9.chg (by omega)
      have hbl58' : Below w4.heap.size w5 w8 := (Below.mono hbl7 (by omega)).trans hbl8
      have hc9 : Chg w2.heap.size w4.heap.size w4 w9 := (hc5.thenBelow hbl58').thenBut hbut9 (Nat.le_refl _) (by omega)
      have hA9 := ISS.chg hA4 hc9 (by omega)
      have hB9 := RI.chg hB4 hc9 (by omega)
      have hO9 := RI.chg hO4 hc9 (by omega)
      have hb19 := hb14.chg hc9 (by omega)
      repeat' (first|refine X.O ?_|refine X.A ?_|refine X.B ?_|refine X.C ?_|refine X.D ?_|refine X.E ?_|refine X.F ?_|refine X.G ?_|refine X.H ?_|refine X.I ?_|fail)
      refine WP.drawn (fun w' => Below w4.heap.size w9 w' ∧ w9.heap.size ≤ w'.heap.size) [(0, true), (1, true), (2, true), (3, true), (4, true), (5, true), (6, true), (7, true), (8, true), (9, true), (10, false), (11, false), (12, true), (1013, false)] (by kernel_rfl) mixed ?_
      intro w10 hs10
      have hz10 := hs10.size
      have hS10 : Below w4.heap.size w9 w10 ∧ w9.heap.size ≤ w10.heap.size := ⟨hs10.below _, by omega⟩
      refine WS.fld rfl rfl (fun w' h => hb9.below h.1 (by omega)) hS10 ?_
      intro p4
      refine WS.fld rfl rfl (fun w' h => hb19.below h.1 (by omega)) hS10 ?_
      intro p5
      repeat' (first|refine X.U rfl ?_|refine X.V rfl ?_|refine X.W rfl ?_|refine X.Y rfl ?_|refine X.Z rfl ?_|refine WS.nil ?_|fail)
      refine WS.ixload rfl rfl (hO9.still RI.stable hs10) (List.getElem?_eq_getElem hli) (fun w' hw' => same_below hS10.1 hw'.1 (by omega)) hS10 ?_
      rintro p6 _ rfl
      refine WS.ixload (j := order[i].toNat) rfl rfl (hB9.still RI.stable hs10) (List.getElem?_eq_getElem hoib) (fun w' hw' => same_below hS10.1 hw'.1 (by omega)) hS10 ?_
      rintro p7 _ rfl
      refine WS.op rfl (o_lit (us := [.int .i64 x.2[order[i].toNat]]) (by rfl) (by rfl) rfl (by decide) (one1 rfl) ?_)
      intro v11 w11 hown11 hbl11 hz11 _
      have hS11 : Below w4.heap.size w9 w11 ∧ w9.heap.size ≤ w11.heap.size := ⟨hS10.1.trans (Below.mono hbl11 (by omega)), by omega⟩
      refine ⟨hS11, ?_⟩
      have hbl911 : Below w9.heap.size w9 w11 := (hs10.below _).trans (Below.mono hbl11 (by omega))
      have oB11 := oB9.chg (Chg.of_below hbl911) (by omega)
      have o11 := o9.chg (Chg.of_below hbl911) (by omega)
      refine WS.op rfl (o_appendK (us := Ints ((permL x order).2.take i)) (news := [.int .i64 x.2[order[i].toNat]]) (by rfl) (by rfl) oB11.own hown11.src (one1 rfl) (by simp [Ints, hl2, maxLen]; omega) (by simp [Ints, hl2]; omega) (by omega) (by simp) ?_)
      intro v12 w12 hown12 hg12 hbl12 hk12
      have hz12 := hg12.size
      have hS12 : Below w4.heap.size w9 w12 ∧ w9.heap.size ≤ w12.heap.size := ⟨hS11.1.trans hbl12, by omega⟩
      refine ⟨hS12, ?_⟩
      obtain ⟨a12, c12, hv12, _⟩ := hown12.shape
      have hb12 := (hb9.below hbl911 (by omega)).below hbl12 (by omega)
      refine WS.fldst rfl rfl hb12 hS12 ?_ (hu := by rw [hv12]; rfl)
      intro p8 w13 hb13 hbut13
      have hz13 := hbut13.size
      refine WS.nil ?_
      have e1 : (permL x order).1.take (i + 1) = (permL x order).1.take i ++ [pr] := take_snoc (by omega) (by subst hpr; simp [permL])
      have e2 : Ints ((permL x order).2.take (i + 1)) = Ints ((permL x order).2.take i) ++ [.int .i64 x.2[order[i].toNat]] := (Ints_snoc (show i < (permL x order).2.length by omega) (by simp [permL, List.getElem?_eq_getElem hoib])).symm
      have o12 : OwSSv 25 2 w4.heap.size w12.heap.size w12 v8 (vs ++ [vr]) ((permL x order).1.take (i + 1)) := by
        rw [e1]
        exact (o11.keepBut2 oB11.own (fun j u hu k hk e => hap8 j u hu k hk e) hz12 (fun k hk hne => hg12.block k hk (fun e => hne e.symm))).wide (Nat.le_refl _) (by omega) (Nat.le_refl _)
      have hap12 : ∀ (j : Nat) u, (vs ++ [vr])[j]? = some u → ∀ k, u.ownBlock = some k → v12.ownBlock ≠ some k := fun j u hu k hk e => by
        rcases hk12 k e with h1 | h1
        · exact hap8 j u hu k hk h1
        · obtain ⟨xs, hx2⟩ : ∃ xs, ((permL x order).1.take i ++ [pr])[j]? = some xs := ⟨_, List.getElem?_eq_getElem (by rw [← o8.len]; exact (List.getElem?_eq_some_iff.1 hu).1)⟩
          have := (o8.rows j u xs hu hx2).lt k hk
          omega
      repeat' (first|refine X.O ?_|refine X.A ?_|refine X.B ?_|refine X.C ?_|refine X.D ?_|refine X.E ?_|refine X.F ?_|refine X.G ?_|refine X.H ?_|refine X.I ?_|fail)
      refine ⟨(i + 1, v8, v12), ⟨rfl, rfl, rfl, rfl, (by first|rfl|exact X.T (by omega)), trivial⟩, ⟨by dsimp only; omega, by rw [hv8]; rfl, by rw [hv12]; rfl, hb13, ⟨_, (o12.chg hbut13.chg (by omega)).wide (Nat.le_refl _) (by omega) (Nat.le_refl _), hap12⟩, ?_, (hc9.thenBelow hS12.1).thenBut hbut13 (Nat.le_refl _) (by omega)⟩, by dsimp only; omega⟩
      have oN : OwI 2 w4.heap.size w12.heap.size w12 v12 ((permL x order).2.take (i + 1)) := ⟨by rw [e2]; exact hown12, fun k hk => (hown12.block k hk).2, Nat.le_refl _⟩
      exact (oN.chg hbut13.chg (by omega)).wide (Nat.le_refl _) (by omega) (Nat.le_refl _)
  · rename_i hge
    have hie : i = order.length := by omega
    subst hie
    rw [List.take_of_length_le (by omega)] at oA oB
    have hb25 := hb24.chg hc5 (by omega)
    repeat' (first|refine X.O ?_|refine X.A ?_|refine X.B ?_|refine X.C ?_|refine X.D ?_|refine X.E ?_|refine X.F ?_|refine X.G ?_|refine X.H ?_|refine X.I ?_|fail)
    refine WL.step (o_loadS (by rfl) hb5 (by rfl) ?_)
    refine WL.step (o_storeS (vs := [vA, vB]) (by rfl) (by rfl) hb25 (by rfl) (by rfl) (fun u hu => by
      simp only [List.mem_cons, List.not_mem_nil, or_false] at hu
      rcases hu with rfl | rfl
      · exact hone1
      · exact hone2) ?_)
    intro w6 hb6 hbut6
    have hz6 := hbut6.size
    have hc6 := hbut6.chg
    repeat' (first|refine X.O ?_|refine X.A ?_|refine X.B ?_|refine X.C ?_|refine X.D ?_|refine X.E ?_|refine X.F ?_|refine X.G ?_|refine X.H ?_|refine X.I ?_|fail)
    refine ⟨_, retS rfl (by rfl) hb6 (by rfl), ⟨vA, vB, vs, rfl, (oA.chg hc6 (by omega)).wide (by omega) (by omega) (Nat.le_refl _), (oB.chg hc6 (by omega)).wide (by omega) (by omega) (Nat.le_refl _), hap⟩, ?_⟩
    have hc : Chg 0 0 w w4 := Chg.of_below hbl14
    refine ⟨by rw [hc6.os, hc5.os, hc.os], by rw [hc6.tape, hc5.tape, hc.tape], by rw [hc6.output, hc5.output, hc.output], by omega, fun k hk hd => ?_⟩
    rw [hc6.block k (by omega) (by omega), hc5.block k (by omega) (by omega), hc.block k hk (by omega)]
end Go.Proofs
