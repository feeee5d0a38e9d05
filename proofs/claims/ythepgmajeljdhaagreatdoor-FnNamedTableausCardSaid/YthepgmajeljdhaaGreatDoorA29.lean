/- The stage weights of a tree, the program's. -/
import Derived.Test.YthepgmajeljdhaaGreatDoorA14
import Derived.Test.YthepgmajeljdhaaGreatDoorA21
import Derived.Test.YthepgmajeljdhaaGreatDoorA26
namespace Go.Fw
open Go Go.RowKit
theorem Chg.ofStore {e : TypeId} {a b lo : Nat} {w w1 : World} {v : Value} {xs : List Int} (h : OwI e a b w v xs) (hbl : Below lo w w1) (hz : w1.heap.size = w.heap.size) (hf : ∀ k, v.ownBlock ≠ some k → w1.heap[k]? = w.heap[k]?) : Chg a b w w1 :=
  ⟨hbl.os, hbl.tape, hbl.output, by omega, fun k _ hd => hf k (fun e => by have := h.lt k e; have := (h.own.block k e).1; omega)⟩
end Go.Fw
namespace Go.Proofs
open Go Go.Fw Go.RowKit Go.Rk
theorem applied_any {lo hi lo' hi' : Nat} {w : World} {v v' : Value} {x : TabD} {ys : List Int} (h : IT lo hi w v x) (h' : IS lo' hi' w v' ys) (hx : Tab x) (hl : ys.length = x.2.length) (hy : allN ys = true) :
    Does Tryz.prog 82 [v, v'] w fun r w' => NewI w r w' (appL x ys) := by
  have hz := h.hi_le
  have hz' := h'.hi_le
  obtain ⟨va, vb, rfl, hA, hB⟩ := h
  obtain ⟨aa, ca, hva⟩ := hA.shape
  subst hva
  obtain ⟨a', c', hv'⟩ := h'.shape
  subst hv'
  have hm := hx.le8
  have hsq := hx.sq
  have hal := appL_length x ys
  refine Does.enter Tryz.func82 Tryz.ntmps82 rfl (by rfl) ?_
  repeat' (first|refine X.O ?_|refine X.A ?_|refine X.B ?_|refine X.C ?_|refine X.D ?_|refine X.E ?_|refine X.F ?_|refine X.G ?_|refine X.H ?_|refine X.I ?_|fail)
  refine WL.step (o_box (by rfl) ?_)
  intro w1 hb1 hbl1 hz1
  repeat' (first|refine X.O ?_|refine X.A ?_|refine X.B ?_|refine X.C ?_|refine X.D ?_|refine X.E ?_|refine X.F ?_|refine X.G ?_|refine X.H ?_|refine X.I ?_|fail)
  refine WL.step (o_lit (us := []) (by rfl) (by rfl) rfl (by decide) one0 ?_)
  intro v2 w2 hown2 hbl2 hz2 _
  have hbl12 : Below w.heap.size w w2 := hbl1.trans (Below.mono hbl2 (by omega))
  have hA2 := hA.below IS.stable hbl12 hz
  have hY2 := h'.below RI.stable hbl12 hz'
  repeat' (first|refine X.O ?_|refine X.A ?_|refine X.B ?_|refine X.C ?_|refine X.D ?_|refine X.E ?_|refine X.F ?_|refine X.G ?_|refine X.H ?_|refine X.I ?_|fail)
  refine WL.fld (hb1.below hbl2 (by omega)) ?_
  intro p1
  repeat' (first|refine X.O ?_|refine X.A ?_|refine X.B ?_|refine X.C ?_|refine X.D ?_|refine X.E ?_|refine X.F ?_|refine X.G ?_|refine X.H ?_|refine X.I ?_|fail)
  refine WP.loop (fun (s : Nat × Value) => [(1, .slice a' ys.length c'), (5, s.2), (10, .slice aa x.1.length ca), (11, .int .i64 (x.1.length : Nat)), (12, .int .i64 (s.1 : Nat))])
    (fun s w3 => s.1 ≤ x.1.length ∧ Own w1.heap.size 2 w3 s.2 (Ints ((appL x ys).take s.1)) ∧ Below w1.heap.size w2 w3)
    (fun s => x.1.length - s.1) (0, v2) ⟨rfl, rfl, rfl, rfl, rfl, trivial⟩ ⟨by dsimp only; omega, by simpa [Ints] using hown2, Below.refl _ _⟩ ?_
  rintro ⟨i, vo⟩ w3 ⟨hi1, hown3, hbl3⟩
  dsimp only at hi1 hown3 ⊢
  have hz3 := hbl3.size
  repeat' (first|refine X.O ?_|refine X.A ?_|refine X.B ?_|refine X.C ?_|refine X.D ?_|refine X.E ?_|refine X.F ?_|refine X.G ?_|refine X.H ?_|refine X.I ?_|fail)
  first|refine X.J (fun _ => ?_) (fun _ => ?_)|refine X.L (fun _ => ?_) (fun _ => ?_)|refine X.M (fun _ => ?_) (fun _ => ?_)|refine X.R (fun _ => ?_) (fun _ => ?_)|fail
  · rename_i hlt
    have hlia : i < x.1.length := by omega
    have hrow := hx.row _ (List.getElem_mem hlia)
    repeat' (first|refine X.O ?_|refine X.A ?_|refine X.B ?_|refine X.C ?_|refine X.D ?_|refine X.E ?_|refine X.F ?_|refine X.G ?_|refine X.H ?_|refine X.I ?_|fail)
    refine WL.ixload (hA2.below IS.stable hbl3 (by omega)) (List.getElem?_eq_getElem hlia) ?_
    intro p2 u hu
    repeat' (first|refine X.O ?_|refine X.A ?_|refine X.B ?_|refine X.C ?_|refine X.D ?_|refine X.E ?_|refine X.F ?_|refine X.G ?_|refine X.H ?_|refine X.I ?_|fail)
    refine WL.call (dot_any hu (hY2.below RI.stable hbl3 (by omega)) (by omega) (by omega) hrow.2 hy) ?_
    rintro _ w4 ⟨rfl, hs4⟩
    have hz4 := hs4.size
    refine o_append1 (u := .int .i64 _) (fun _ => by rfl) (by rfl) (hown3.still hs4) rfl (by simp [Ints, hal, maxLen]; omega) (by simp [Ints, hal]; omega) (by omega) ?_
    intro p3 v5 w5 hown5 hb5 _ _ _
    repeat' (first|refine X.O ?_|refine X.A ?_|refine X.B ?_|refine X.C ?_|refine X.D ?_|refine X.E ?_|refine X.F ?_|refine X.G ?_|refine X.H ?_|refine X.I ?_|fail)
    refine ⟨(i + 1, v5), ⟨rfl, rfl, rfl, rfl, (by first|rfl|exact X.T (by omega)), trivial⟩, ⟨by dsimp only; omega, ?_, (hbl3.trans (hs4.below _)).trans hb5⟩, by dsimp only; omega⟩
    dsimp only
    rw [← Ints_snoc (show i < (appL x ys).length by omega) (y := dotL x.1[i] ys) (by simp [appL])]
    exact hown5
  · rename_i hge
    have hie : i = x.1.length := by omega
    subst hie
    rw [List.take_of_length_le (by omega)] at hown3
    repeat' (first|refine X.O ?_|refine X.A ?_|refine X.B ?_|refine X.C ?_|refine X.D ?_|refine X.E ?_|refine X.F ?_|refine X.G ?_|refine X.H ?_|refine X.I ?_|fail)
    refine ⟨_, ret1 rfl (by rfl), ?_⟩
    exact ⟨hown3.lower (by omega), hbl12.trans (Below.mono hbl3 (by omega))⟩
theorem stageWeights_any (f : Nat) (hf : f ≤ 8) : ∀ {lo hi lo' hi' : Nat} {w : World} {v v' : Value} {x : TabD} {t : List Int}, IT lo hi w v x → IS lo' hi' w v' t → Tab x → Lv t → t.length ≤ f →
    Does Tryz.prog 54 [v, v'] w fun r w' => NewI w r w' (stW x f t) := by
  induction f with
  | zero => intro _ _ _ _ _ _ _ _ t _ _ _ ht hn; exact absurd ht.pos (by omega)
  | succ f ih =>
  intro lo hi lo' hi' w v v' x t h h' hx ht hn
  have hz := h.hi_le
  have hz' := h'.hi_le
  obtain ⟨va, vb, rfl, hA, hB⟩ := h
  have hT : IT lo hi w (.agg #[va, vb]) x := ⟨_, _, rfl, hA, hB⟩
  obtain ⟨a', c', hv'⟩ := h'.shape
  subst hv'
  have hm := hx.le8
  have hp := hx.pos
  have hsq := hx.sq
  refine Does.enter Tryz.func54 Tryz.ntmps54 rfl (by rfl) ?_
  repeat' (first|refine X.O ?_|refine X.A ?_|refine X.B ?_|refine X.C ?_|refine X.D ?_|refine X.E ?_|refine X.F ?_|refine X.G ?_|refine X.H ?_|refine X.I ?_|fail)
  refine WL.step (o_box (by rfl) ?_)
  intro w1 hb1 hbl1 hz1
  repeat' (first|refine X.O ?_|refine X.A ?_|refine X.B ?_|refine X.C ?_|refine X.D ?_|refine X.E ?_|refine X.F ?_|refine X.G ?_|refine X.H ?_|refine X.I ?_|fail)
  refine WL.step (o_lit (us := [.int .i64 1]) (by rfl) (by rfl) rfl (by decide) (one1 rfl) ?_)
  intro v2 w2 hown2 hbl2 hz2 _
  have hbl12 : Below w.heap.size w w2 := hbl1.trans (Below.mono hbl2 (by omega))
  have hb2 := hb1.below hbl2 (by omega)
  refine WL.step (o_loadS (by rfl) hb2 (by rfl) ?_)
  refine WL.call (stages_at (hT.below hbl12 hz)) ?_
  rintro _ w3 ⟨rfl, hc3⟩
  have hz3 := hc3.size
  have hbl13 : Below w.heap.size w w3 := hbl12.trans (hc3.below (by omega) (by omega))
  have hone : IS w1.heap.size w3.heap.size w3 v2 [1] := (Own.is (xs := [1]) (hown2.below (hc3.below (Nat.le_refl _) (by omega)) (Nat.le_refl _)))
  refine WL.call (Repeat_one x.2.length hone hp hm) ?_
  intro v4 w4 hN4
  have hz4 := hN4.2.size
  have hO := hN4.ow
  obtain ⟨ao, co, hvo⟩ := hO.rd.shape
  rw [List.length_replicate] at hvo
  subst hvo
  have hbl14 : Below w.heap.size w w4 := hbl13.trans (Below.mono hN4.2 (by omega))
  have hb4 := (hb2.chg0 hc3).below hN4.2 (by omega)
  repeat' (first|refine X.O ?_|refine X.A ?_|refine X.B ?_|refine X.C ?_|refine X.D ?_|refine X.E ?_|refine X.F ?_|refine X.G ?_|refine X.H ?_|refine X.I ?_|fail)
  refine WL.call (branchesOf_any (h'.below RI.stable hbl14 hz') ht (by omega)) ?_
  rintro v5 w5 ⟨hS, hbl5⟩
  have hz5 := hbl5.size
  have hbr := branches_ok ht
  obtain ⟨bs, hbs⟩ : ∃ bs, branchesL t = bs := ⟨_, rfl⟩
  rw [hbs] at hS hbr
  have hR := hS.rd
  obtain ⟨ab, cb, hvb⟩ := hR.shape
  subst hvb
  have hbl15 : Below w.heap.size w w5 := hbl14.trans (Below.mono hbl5 (by omega))
  have hb5 := hb4.below hbl5 (by omega)
  have hO5 := hO.chg (Chg.of_below hbl5) (by omega)
  have hT5 := hT.below hbl15 hz
  have hstw : stW x (f + 1) t = prodGo x (stW x f) (List.replicate x.2.length 1) (bs.drop 0) := by rw [stW, hbs]; rfl
  repeat' (first|refine X.O ?_|refine X.A ?_|refine X.B ?_|refine X.C ?_|refine X.D ?_|refine X.E ?_|refine X.F ?_|refine X.G ?_|refine X.H ?_|refine X.I ?_|fail)
  refine WP.loop (fun (s : Nat × List Int) => [(2, .pointer (some ⟨w.heap.size, 0, none⟩)), (5, .slice ao x.2.length co), (15, .slice ab bs.length cb), (16, .int .i64 (bs.length : Nat)), (17, .int .i64 (s.1 : Nat))])
    (fun s w6 => s.1 ≤ bs.length ∧ s.2.length = x.2.length ∧ allN s.2 = true ∧ stW x (f + 1) t = prodGo x (stW x f) s.2 (bs.drop s.1) ∧ OwI 2 w3.heap.size w4.heap.size w6 (.slice ao x.2.length co) s.2 ∧ Chg w3.heap.size w4.heap.size w5 w6)
    (fun s => bs.length - s.1) (0, List.replicate x.2.length 1) ⟨rfl, rfl, rfl, rfl, rfl, trivial⟩ ⟨by dsimp only; omega, by simp, allN_ones _, hstw, hO5, Chg.refl _ _ _⟩ ?_
  rintro ⟨i, out⟩ w6 ⟨hi1, hol, hon, hst, hO6, hc6⟩
  dsimp only at hi1 hol hon hst hO6 ⊢
  have hz6 := hc6.size
  repeat' (first|refine X.O ?_|refine X.A ?_|refine X.B ?_|refine X.C ?_|refine X.D ?_|refine X.E ?_|refine X.F ?_|refine X.G ?_|refine X.H ?_|refine X.I ?_|fail)
  first|refine X.J (fun _ => ?_) (fun _ => ?_)|refine X.L (fun _ => ?_) (fun _ => ?_)|refine X.M (fun _ => ?_) (fun _ => ?_)|refine X.R (fun _ => ?_) (fun _ => ?_)|fail
  · rename_i hlt
    have hli : i < bs.length := by omega
    have hbi := hbr.2 _ (List.getElem_mem hli)
    rw [prodGo_drop hli] at hst
    have hb6 := hb5.chg hc6 (by omega)
    have hT6 := hT5.chg hc6 (by omega)
    repeat' (first|refine X.O ?_|refine X.A ?_|refine X.B ?_|refine X.C ?_|refine X.D ?_|refine X.E ?_|refine X.F ?_|refine X.G ?_|refine X.H ?_|refine X.I ?_|fail)
    refine WL.ixload (ISS.chg hR hc6 (by omega)) (List.getElem?_eq_getElem hli) ?_
    intro p1 u hu
    repeat' (first|refine X.O ?_|refine X.A ?_|refine X.B ?_|refine X.C ?_|refine X.D ?_|refine X.E ?_|refine X.F ?_|refine X.G ?_|refine X.H ?_|refine X.I ?_|fail)
    refine WP.drawn (fun w' => Below w6.heap.size w6 w') [(0, true), (1, true), (2, true), (6, true), (3, false), (4, false), (5, true)] (by kernel_rfl) mixed ?_
    intro w7 hs7
    have hS7 : Below w6.heap.size w6 w7 := hs7.below _
    have hz7 := hs7.size
    refine WS.q rfl (q_loadS (by rfl) (fun w' h => hb6.below h hb6.lt) (by rfl)) hS7 ?_
    refine WS.q rfl (q_loadS (by rfl) (fun w' h => hb6.below h hb6.lt) (by rfl)) hS7 ?_
    repeat' (first|refine X.U rfl ?_|refine X.V rfl ?_|refine X.W rfl ?_|refine X.Y rfl ?_|refine X.Z rfl ?_|refine WS.nil ?_|fail)
    refine WS.call rfl (ih (by omega) (hT6.below hS7 (by omega)) (hu.still RI.stable hs7) hx hbi.1 (by omega)) ?_
    intro v8 w8 hN8
    have hz8 := hN8.2.size
    have hS8 : Below w6.heap.size w6 w8 := hS7.trans (Below.mono hN8.2 (by omega))
    refine ⟨hS8, ?_⟩
    have hsw := stW_ok hsq f bs[i]
    refine WS.call rfl (applied_any (hT6.below hS8 (by omega)) hN8.ow.rd hx hsw.1 hsw.2) ?_
    intro v9 w9 hN9
    have hz9 := hN9.2.size
    have hS9 : Below w6.heap.size w6 w9 := hS8.trans (Below.mono hN9.2 (by omega))
    refine ⟨hS9, ?_⟩
    have hwl := appL_length x (stW x f bs[i])
    obtain ⟨wv, hwv⟩ : ∃ wv, appL x (stW x f bs[i]) = wv := ⟨_, rfl⟩
    have hwn := allN_appL x (stW x f bs[i])
    rw [hwv] at hN9 hwl hwn hst
    have hW := hN9.ow.rd
    obtain ⟨aw, cw, hvw⟩ := hW.shape
    subst hvw
    have hO9 := hO6.chg (Chg.of_below hS9) (by omega)
    have hwo : wv.length = out.length := by omega
    repeat' (first|refine X.U rfl ?_|refine X.V rfl ?_|refine X.W rfl ?_|refine X.Y rfl ?_|refine X.Z rfl ?_|refine WS.nil ?_|fail)
    repeat' (first|refine X.O ?_|refine X.A ?_|refine X.B ?_|refine X.C ?_|refine X.D ?_|refine X.E ?_|refine X.F ?_|refine X.G ?_|refine X.H ?_|refine X.I ?_|fail)
    refine WP.loop (fun (k : Nat) => [(2, .pointer (some ⟨w.heap.size, 0, none⟩)), (5, .slice ao x.2.length co), (15, .slice ab bs.length cb), (16, .int .i64 (bs.length : Nat)), (17, .int .i64 (i : Nat)), (25, .slice aw wv.length cw), (26, .int .i64 (wv.length : Nat)), (27, .int .i64 (k : Nat))])
      (fun k w10 => k ≤ out.length ∧ OwI 2 w3.heap.size w4.heap.size w10 (.slice ao x.2.length co) ((mulsL out wv).take k ++ out.drop k) ∧ Chg w3.heap.size w4.heap.size w9 w10)
      (fun k => out.length - k) 0 ⟨rfl, rfl, rfl, rfl, rfl, rfl, rfl, rfl, trivial⟩ ⟨by omega, by simpa using hO9, Chg.refl _ _ _⟩ ?_
    rintro k w10 ⟨hk, hO10, hc10⟩
    have hz10 := hc10.size
    repeat' (first|refine X.O ?_|refine X.A ?_|refine X.B ?_|refine X.C ?_|refine X.D ?_|refine X.E ?_|refine X.F ?_|refine X.G ?_|refine X.H ?_|refine X.I ?_|fail)
    first|refine X.J (fun _ => ?_) (fun _ => ?_)|refine X.L (fun _ => ?_) (fun _ => ?_)|refine X.M (fun _ => ?_) (fun _ => ?_)|refine X.R (fun _ => ?_) (fun _ => ?_)|fail
    · rename_i hltk
      have hlk : k < out.length := by omega
      have hlw : k < wv.length := by omega
      have hob := allN_get hon hlk
      have hwb := allN_get hwn hlw
      have hmb := mul_bd hob.1 hob.2 hwb.1 hwb.2
      have hml := muls_len hwo hk
      repeat' (first|refine X.O ?_|refine X.A ?_|refine X.B ?_|refine X.C ?_|refine X.D ?_|refine X.E ?_|refine X.F ?_|refine X.G ?_|refine X.H ?_|refine X.I ?_|fail)
      refine WL.ixload (RI.chg hW hc10 (by omega)) (List.getElem?_eq_getElem hlw) ?_
      rintro p2 _ rfl
      repeat' (first|refine X.O ?_|refine X.A ?_|refine X.B ?_|refine X.C ?_|refine X.D ?_|refine X.E ?_|refine X.F ?_|refine X.G ?_|refine X.H ?_|refine X.I ?_|fail)
      refine WL.ixload hO10.rd (muls_get hwo hlk) ?_
      rintro p3 _ rfl
      repeat' (first|refine X.O ?_|refine X.A ?_|refine X.B ?_|refine X.C ?_|refine X.D ?_|refine X.E ?_|refine X.F ?_|refine X.G ?_|refine X.H ?_|refine X.I ?_|fail)
      refine WL.step (o_mul (by rfl) (by rfl) (by unfold InI; omega) ?_)
      refine WL.call (num_any _ _) ?_
      rintro _ _ ⟨rfl, rfl⟩
      refine WL.ixstore (j := k) hO10.own (by rw [Ints_length]; omega) ?_
      intro p4 w11 hown11 hbl11 hz11 hf11
      rw [Ints_set, muls_step hwo hlk] at hown11
      repeat' (first|refine X.O ?_|refine X.A ?_|refine X.B ?_|refine X.C ?_|refine X.D ?_|refine X.E ?_|refine X.F ?_|refine X.G ?_|refine X.H ?_|refine X.I ?_|fail)
      exact ⟨k + 1, ⟨rfl, rfl, rfl, rfl, rfl, rfl, rfl, (by first|rfl|exact X.T (by omega)), trivial⟩, ⟨by omega, ⟨hown11, hO10.lt, by have := hO10.hi_le; omega⟩, hc10.trans (Chg.ofStore hO10 hbl11 hz11 hf11)⟩, by omega⟩
    · rename_i hgek
      have hke : k = out.length := by omega
      have hml : (mulsL out wv).length = out.length := by rw [mulsL_length]; omega
      rw [hke, List.take_of_length_le (by omega), List.drop_length, List.append_nil] at hO10
      repeat' (first|refine X.O ?_|refine X.A ?_|refine X.B ?_|refine X.C ?_|refine X.D ?_|refine X.E ?_|refine X.F ?_|refine X.G ?_|refine X.H ?_|refine X.I ?_|fail)
      exact ⟨(i + 1, mulsL out wv), ⟨rfl, rfl, rfl, rfl, (by first|rfl|exact X.T (by omega)), trivial⟩, ⟨by dsimp only; omega, by dsimp only; omega, allN_mulsL _ _, hst, hO10, (hc6.thenBelow (Below.mono hS9 hz6)).trans hc10⟩, by dsimp only; omega⟩
  · rename_i hge
    have hie : i = bs.length := by omega
    subst hie
    rw [List.drop_length, prodGo] at hst
    repeat' (first|refine X.O ?_|refine X.A ?_|refine X.B ?_|refine X.C ?_|refine X.D ?_|refine X.E ?_|refine X.F ?_|refine X.G ?_|refine X.H ?_|refine X.I ?_|fail)
    refine ⟨_, ret1 rfl (by rfl), ?_⟩
    rw [hst]
    have hcc : Chg 0 0 w w5 := Chg.of_below hbl15
    exact ⟨hO6.own.lower (by omega), ⟨by rw [hc6.os, hcc.os], by rw [hc6.tape, hcc.tape], by rw [hc6.output, hcc.output], by omega, fun k hk => by rw [hc6.block k (by omega) (by omega), hcc.block k hk (by omega)]⟩⟩
end Go.Proofs
/- The stage weights of a tree, the reference's; weights, codes and the public functions. -/
namespace Go.Proofs
open Go Go.Fw Go.RowKit Go.Rk
theorem weight_any {lo hi lo' hi' : Nat} {w : World} {v v' : Value} {x : TabD} {t : List Int} (h : IT lo hi w v x) (h' : IS lo' hi' w v' t) (hx : Tab x) (ht : Lv t) (hn : t.length ≤ 8) :
    Does Tryz.prog 103 [v, v'] w fun r w' => r = .int .i64 (weightL x t) ∧ Chg 0 0 w w' := by
  have hz := h.hi_le
  have hz' := h'.hi_le
  obtain ⟨va, vb, rfl, hA, hB⟩ := h
  have hT : IT lo hi w (.agg #[va, vb]) x := ⟨_, _, rfl, hA, hB⟩
  have hm := hx.le8
  have hsq := hx.sq
  have hsw := stW_ok hsq 8 t
  refine Does.enter Tryz.func103 Tryz.ntmps103 rfl (by rfl) ?_
  repeat' (first|refine X.O ?_|refine X.A ?_|refine X.B ?_|refine X.C ?_|refine X.D ?_|refine X.E ?_|refine X.F ?_|refine X.G ?_|refine X.H ?_|refine X.I ?_|fail)
  refine WL.step (o_box (by rfl) ?_)
  intro w1 hb1 hbl1 hz1
  repeat' (first|refine X.O ?_|refine X.A ?_|refine X.B ?_|refine X.C ?_|refine X.D ?_|refine X.E ?_|refine X.F ?_|refine X.G ?_|refine X.H ?_|refine X.I ?_|fail)
  refine WP.drawn (fun w' => Below w1.heap.size w1 w') [(0, true), (1, true), (2, true), (3, true), (4, false), (5, false), (6, true)] (by kernel_rfl) mixed ?_
  intro w2 hs2
  have hS2 : Below w1.heap.size w1 w2 := hs2.below _
  have hz2 := hs2.size
  have hbl2 : Below w.heap.size w w2 := hbl1.trans (hs2.below _)
  refine WS.fld rfl rfl (fun w' h => hb1.below h hb1.lt) hS2 ?_
  intro p1
  refine WS.q rfl (q_loadS (by rfl) (fun w' h => hb1.below h hb1.lt) (by rfl)) hS2 ?_
  repeat' (first|refine X.U rfl ?_|refine X.V rfl ?_|refine X.W rfl ?_|refine X.Y rfl ?_|refine X.Z rfl ?_|refine WS.nil ?_|fail)
  refine WS.call rfl (stageWeights_any 8 (Nat.le_refl _) (hT.below hbl2 hz) (h'.below RI.stable hbl2 hz') hx ht hn) ?_
  intro v3 w3 hN3
  have hz3 := hN3.2.size
  have hS3 : Below w1.heap.size w1 w3 := hS2.trans (Below.mono hN3.2 (by omega))
  refine ⟨hS3, ?_⟩
  refine WS.call rfl (dot_any ((hB.below RI.stable hbl1 hz).below RI.stable hS3 (by omega)) hN3.ow.rd (by omega) (by omega) hx.last hsw.2) ?_
  rintro _ w4 ⟨rfl, hs4⟩
  have hS4 : Below w1.heap.size w1 w4 := hS3.trans (hs4.below _)
  refine ⟨hS4, ?_⟩
  repeat' (first|refine X.U rfl ?_|refine X.V rfl ?_|refine X.W rfl ?_|refine X.Y rfl ?_|refine X.Z rfl ?_|refine WS.nil ?_|fail)
  repeat' (first|refine X.O ?_|refine X.A ?_|refine X.B ?_|refine X.C ?_|refine X.D ?_|refine X.E ?_|refine X.F ?_|refine X.G ?_|refine X.H ?_|refine X.I ?_|fail)
  refine ⟨_, ret1 rfl (by rfl), ?_⟩
  exact ⟨rfl, (Chg.of_below hbl1).trans (Chg.of_below hS4)⟩
theorem checkTableauTree_any {lo hi lo' hi' : Nat} {w : World} {v v' : Value} {x : TabD} {t : List Int} (h : IT lo hi w v x) (h' : IS lo' hi' w v' t) :
    Does Tryz.prog 53 [v, v'] w fun r w' => r = .int .i64 (if isTab x = true ∧ isLev t = true then 0 else 1) ∧ Chg 0 0 w w' := by
  have hz := h.hi_le
  have hz' := h'.hi_le
  obtain ⟨va, vb, rfl, hA, hB⟩ := h
  have hT : IT lo hi w (.agg #[va, vb]) x := ⟨_, _, rfl, hA, hB⟩
  refine Does.enter Tryz.func53 Tryz.ntmps53 rfl (by rfl) ?_
  repeat' (first|refine X.O ?_|refine X.A ?_|refine X.B ?_|refine X.C ?_|refine X.D ?_|refine X.E ?_|refine X.F ?_|refine X.G ?_|refine X.H ?_|refine X.I ?_|fail)
  refine WL.step (o_box (by rfl) ?_)
  intro w1 hb1 hbl1 hz1
  have hc1 := Chg.of_below hbl1
  repeat' (first|refine X.O ?_|refine X.A ?_|refine X.B ?_|refine X.C ?_|refine X.D ?_|refine X.E ?_|refine X.F ?_|refine X.G ?_|refine X.H ?_|refine X.I ?_|fail)
  refine WL.step (o_loadS (by rfl) hb1 (by rfl) ?_)
  refine WL.call (IsTableau_any (hT.below hbl1 hz)) ?_
  rintro _ w2 ⟨rfl, hc2⟩
  have hc12 := hc1.trans hc2
  repeat' (first|refine X.O ?_|refine X.A ?_|refine X.B ?_|refine X.C ?_|refine X.D ?_|refine X.E ?_|refine X.F ?_|refine X.G ?_|refine X.H ?_|refine X.I ?_|fail)
  first | refine WL.gsplitD (by rfl) (by rfl) (by rfl) (fun _ => ?_) (fun _ => ?_) | refine WL.gsplitND (by rfl) (by rfl) (by rfl) (fun _ => ?_) (fun _ => ?_) | refine WL.gsplitN (by rfl) (by rfl) (by rfl) (fun _ => ?_) (fun _ => ?_) | refine WL.gsplit (by rfl) (by rfl) (by rfl) (fun _ => ?_) (fun _ => ?_) | fail
  · rename_i hbad
    repeat' (first|refine X.O ?_|refine X.A ?_|refine X.B ?_|refine X.C ?_|refine X.D ?_|refine X.E ?_|refine X.F ?_|refine X.G ?_|refine X.H ?_|refine X.I ?_|fail)
    refine ⟨_, ret1 rfl (by rfl), ?_⟩
    exact ⟨by rw [if_neg (fun h => by rw [hbad] at h; cases h.1)], hc12⟩
  · rename_i hok
    repeat' (first|refine X.O ?_|refine X.A ?_|refine X.B ?_|refine X.C ?_|refine X.D ?_|refine X.E ?_|refine X.F ?_|refine X.G ?_|refine X.H ?_|refine X.I ?_|fail)
    refine WL.call (IsLevels_any (RI.chg h' hc12 (by omega))) ?_
    rintro _ w3 ⟨rfl, hs3⟩
    have hc13 := hc12.trans (Chg.of_still hs3)
    repeat' (first|refine X.O ?_|refine X.A ?_|refine X.B ?_|refine X.C ?_|refine X.D ?_|refine X.E ?_|refine X.F ?_|refine X.G ?_|refine X.H ?_|refine X.I ?_|fail)
    first|refine X.J (fun _ => ?_) (fun _ => ?_)|refine X.L (fun _ => ?_) (fun _ => ?_)|refine X.M (fun _ => ?_) (fun _ => ?_)|refine X.R (fun _ => ?_) (fun _ => ?_)|fail
    · rename_i hbad
      repeat' (first|refine X.O ?_|refine X.A ?_|refine X.B ?_|refine X.C ?_|refine X.D ?_|refine X.E ?_|refine X.F ?_|refine X.G ?_|refine X.H ?_|refine X.I ?_|fail)
      refine ⟨_, ret1 rfl (by rfl), ?_⟩
      exact ⟨by rw [if_neg (fun h => by rw [hbad] at h; cases h.2)], hc13⟩
    · rename_i hlev
      repeat' (first|refine X.O ?_|refine X.A ?_|refine X.B ?_|refine X.C ?_|refine X.D ?_|refine X.E ?_|refine X.F ?_|refine X.G ?_|refine X.H ?_|refine X.I ?_|fail)
      refine ⟨_, ret1 rfl (by rfl), ?_⟩
      exact ⟨by rw [if_pos ⟨hok, hlev⟩], hc13⟩
theorem StageWeights_any {lo hi lo' hi' : Nat} {w : World} {v v' : Value} {x : TabD} {t : List Int} (h : IT lo hi w v x) (h' : IS lo' hi' w v' t) :
    Does Tryz.prog 22 [v, v'] w fun r w' => ResI w r w' (stageWeights x t) := by
  have hz := h.hi_le
  have hz' := h'.hi_le
  obtain ⟨va, vb, rfl, hA, hB⟩ := h
  have hT : IT lo hi w (.agg #[va, vb]) x := ⟨_, _, rfl, hA, hB⟩
  refine Does.enter Tryz.func22 Tryz.ntmps22 rfl (by rfl) ?_
  repeat' (first|refine X.O ?_|refine X.A ?_|refine X.B ?_|refine X.C ?_|refine X.D ?_|refine X.E ?_|refine X.F ?_|refine X.G ?_|refine X.H ?_|refine X.I ?_|fail)
  refine WL.step (o_box (by rfl) ?_)
  intro w1 hb1 hbl1 hz1
  have hc1 := Chg.of_below hbl1
  repeat' (first|refine X.O ?_|refine X.A ?_|refine X.B ?_|refine X.C ?_|refine X.D ?_|refine X.E ?_|refine X.F ?_|refine X.G ?_|refine X.H ?_|refine X.I ?_|fail)
  refine WL.step (o_loadS (by rfl) hb1 (by rfl) ?_)
  repeat' (first|refine X.O ?_|refine X.A ?_|refine X.B ?_|refine X.C ?_|refine X.D ?_|refine X.E ?_|refine X.F ?_|refine X.G ?_|refine X.H ?_|refine X.I ?_|fail)
  refine WL.call (checkTableauTree_any (hT.below hbl1 hz) (RI.chg h' hc1 (by omega))) ?_
  rintro _ w2 ⟨rfl, hc2⟩
  have hz2 := hc2.size
  have hc12 := hc1.trans hc2
  have hbl2 : Below w.heap.size w w2 := hc12.below (Nat.le_refl _) (by omega)
  unfold stageWeights
  by_cases hok : isTab x = true ∧ isLev t = true
  · rw [if_pos hok, if_pos hok]
    have hlv := isLev_iff hok.2
    repeat' (first|refine X.O ?_|refine X.A ?_|refine X.B ?_|refine X.C ?_|refine X.D ?_|refine X.E ?_|refine X.F ?_|refine X.G ?_|refine X.H ?_|refine X.I ?_|fail)
    refine WL.step (o_loadS (by rfl) (hb1.chg0 hc2) (by rfl) ?_)
    repeat' (first|refine X.O ?_|refine X.A ?_|refine X.B ?_|refine X.C ?_|refine X.D ?_|refine X.E ?_|refine X.F ?_|refine X.G ?_|refine X.H ?_|refine X.I ?_|fail)
    refine WL.call (stageWeights_any 8 (Nat.le_refl _) (hT.below hbl2 hz) (RI.chg h' hc12 (by omega)) (isTab_iff hok.1) hlv.1 hlv.2) ?_
    intro v3 w3 hN
    repeat' (first|refine X.O ?_|refine X.A ?_|refine X.B ?_|refine X.C ?_|refine X.D ?_|refine X.E ?_|refine X.F ?_|refine X.G ?_|refine X.H ?_|refine X.I ?_|fail)
    refine ⟨_, ret2 rfl (by rfl) (by rfl), ?_⟩
    exact ⟨_, rfl, hN.trans hbl2⟩
  · rw [if_neg hok, if_neg hok]
    repeat' (first|refine X.O ?_|refine X.A ?_|refine X.B ?_|refine X.C ?_|refine X.D ?_|refine X.E ?_|refine X.F ?_|refine X.G ?_|refine X.H ?_|refine X.I ?_|fail)
    refine ⟨_, ret2 rfl (by rfl) (by rfl), ?_⟩
    exact ResI.none w w2 hbl2 1
end Go.Proofs
