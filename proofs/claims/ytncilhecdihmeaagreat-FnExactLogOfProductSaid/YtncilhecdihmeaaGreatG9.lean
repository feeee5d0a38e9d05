/- The reference's table of cuts: l05Cuts, l03Find. -/
import Derived.Test.YtncilhecdihmeaaGreatG8
set_option maxRecDepth 8000
namespace Go.Rk
open Go.Fw Go.Proofs
theorem findT_none {t : List Int} (h : ∀ i (hi : i < (treesTo 6).length), (treesTo 6)[i] ≠ t) : findT t = 0 := by
  unfold findT
  rw [if_neg]
  intro hm
  obtain ⟨i, hi, he⟩ := List.getElem_of_mem hm
  exact h i hi he
theorem findT_some {t : List Int} {i : Nat} (hi : i < (treesTo 6).length) (he : (treesTo 6)[i] = t) : findT t = i + 1 := by
  have hm : t ∈ treesTo 6 := by rw [← he]; exact List.getElem_mem hi
  unfold findT
  rw [if_pos hm]
  obtain ⟨hp, hg⟩ := placeT_get hm
  have h1 := placeT_pos t
  have hgp := hg hp
  rcases Nat.lt_trichotomy (placeT t - 1) i with h2 | h2 | h2
  · have := treesTo_sorted h2 hi
    rw [hgp, he, ord_cmpT.refl] at this
    omega
  · omega
  · have := treesTo_sorted h2 hp
    rw [hgp, he, ord_cmpT.refl] at this
    omega
end Go.Rk
namespace Go.Proofs
open Go Go.Fw Go.RowKit Go.Rk
set_option maxHeartbeats 1000000 in
theorem l05Cuts_any (f : Nat) {lo hi : Nat} {w : World} {v : Value} {t : List Int} (h : IS lo hi w v t) (ht : Lv t) (hf : t.length ≤ f) (h8 : t.length ≤ 8) :
    Does Tryz.prog 133 [v] w fun r w' => (∃ ts, Own3 w.heap.size 91 w' r ts ∧ CutA w' ts ((treeS f t).map cutF)) ∧ Below w.heap.size w w' := by
  obtain ⟨hok, ht0, ht1⟩ := treeS_ok f ht hf h8
  have hp := pow_256 (n := t.length) h8
  obtain ⟨htl1, htl2⟩ := tot_len hok
  obtain ⟨G, hG⟩ : ∃ G, treeS f t = G := ⟨_, rfl⟩
  rw [hG] at hok ht0 ht1 htl1 htl2 ⊢
  refine Does.enter Tryz.func133 Tryz.ntmps133 rfl (by rfl) ?_
  repeat' (first|refine X.O ?_|refine X.A ?_|refine X.B ?_|refine X.C ?_|refine X.D ?_|refine X.E ?_|refine X.F ?_|refine X.G ?_|refine X.H ?_|refine X.I ?_|fail)
  refine WL.call (l05Tree_any f h ht hf h8) ?_
  rintro v1 w1 ⟨⟨ts1, o1, hA1⟩, hbl1⟩
  have hz1 := hbl1.size
  rw [hG] at hA1
  have hl1 := hA1.1
  obtain ⟨a1, c1, hv1, _⟩ := o1.shape
  subst hv1
  refine WL.step (o_lit30 ?_)
  intro v2 w2 hown2 hbl2 hz2
  repeat' (first|refine X.O ?_|refine X.A ?_|refine X.B ?_|refine X.C ?_|refine X.D ?_|refine X.E ?_|refine X.F ?_|refine X.G ?_|refine X.H ?_|refine X.I ?_|fail)
  refine WP.loop (fun (s : Nat × Value) => [(3, .slice a1 ts1.length c1), (4, s.2), (5, .int .i64 (s.1 : Nat))])
    (fun s w3 => s.1 ≤ G.length ∧ (∃ to, Own3 w1.heap.size 91 w3 s.2 to ∧ CutA w3 to ((G.take s.1).map cutF)) ∧ Below w1.heap.size w1 w3)
    (fun s => G.length - s.1) (0, v2) ⟨rfl, rfl, rfl, trivial⟩ ⟨by dsimp only; omega, ⟨[], hown2, CutA.nil _⟩, hbl2⟩ ?_
  rintro ⟨i, vo⟩ w3 ⟨hi1, ⟨to, oo, hAo⟩, hbl3⟩
  dsimp only at hi1 oo hAo ⊢
  have hz3 := hbl3.size
  have hol : to.length = i := by rw [hAo.1, List.length_map, List.length_take]; omega
  repeat' (first|refine X.O ?_|refine X.A ?_|refine X.B ?_|refine X.C ?_|refine X.D ?_|refine X.E ?_|refine X.F ?_|refine X.G ?_|refine X.H ?_|refine X.I ?_|fail)
  refine WL.step (o_len3 (by rfl) ?_)
  repeat' (first|refine X.O ?_|refine X.A ?_|refine X.B ?_|refine X.C ?_|refine X.D ?_|refine X.E ?_|refine X.F ?_|refine X.G ?_|refine X.H ?_|refine X.I ?_|fail)
  first|refine X.J (fun _ => ?_) (fun _ => ?_)|refine X.L (fun _ => ?_) (fun _ => ?_)|refine X.M (fun _ => ?_) (fun _ => ?_)|refine X.R (fun _ => ?_) (fun _ => ?_)|fail
  · rename_i hlt
    have hli : i < G.length := by omega
    have hlit : i < ts1.length := by omega
    have hoki := hok _ (List.getElem_mem hli)
    have hst : (G.take (i + 1)).map cutF = (G.take i).map cutF ++ [cutF G[i]] := by rw [List.take_succ_eq_append_getElem hli, List.map_append]; rfl
    obtain ⟨⟨sC, sT, sN⟩, hxE⟩ : ∃ s, G[i] = s := ⟨_, rfl⟩
    obtain ⟨⟨sc, st, sn⟩, hsE⟩ : ∃ s, ts1[i] = s := ⟨_, rfl⟩
    have hgx : ts1[i]? = some (sc, st, sn) := by rw [List.getElem?_eq_getElem hlit, hsE]
    have hsj := hA1.2 i _ _ hgx (List.getElem?_eq_getElem hli)
    rw [hxE] at hsj hst hoki
    have hsn : sn = .int .i64 sN := hsj.2.2
    subst hsn
    have hlx := hoki.len h8
    dsimp only at hlx
    obtain ⟨ac, cc, hsc⟩ := hsj.1.shape
    obtain ⟨at2, ct2, hst2⟩ := hsj.2.1.shape
    dsimp only at hsc hst2
    subst hsc hst2
    have o13 := o1.below hbl3 (Nat.le_refl _)
    have hsj3 := hsj.tsame (TSame.below hbl3)
    repeat' (first|refine X.O ?_|refine X.A ?_|refine X.B ?_|refine X.C ?_|refine X.D ?_|refine X.E ?_|refine X.F ?_|refine X.G ?_|refine X.H ?_|refine X.I ?_|fail)
    refine WL.step (o_lit (us := []) (by rfl) (by rfl) rfl (by decide) one0 ?_)
    intro v4 w4 hown4 hbl4 hz4 _
    have o14 := o13.below hbl4 (Nat.le_refl _)
    have hsj4 := hsj3.tsame (TSame.below hbl4)
    repeat' (first|refine X.O ?_|refine X.A ?_|refine X.B ?_|refine X.C ?_|refine X.D ?_|refine X.E ?_|refine X.F ?_|refine X.G ?_|refine X.H ?_|refine X.I ?_|fail)
    refine WL.ixfld3 (j := i) (off := 1) o14 hgx (by rfl) ?_
    intro _ _
    repeat' (first|refine X.O ?_|refine X.A ?_|refine X.B ?_|refine X.C ?_|refine X.D ?_|refine X.E ?_|refine X.F ?_|refine X.G ?_|refine X.H ?_|refine X.I ?_|fail)
    refine WP.midE (fun l' x => ∃ v6, Agree l' [(3, .slice a1 ts1.length c1), (4, vo), (5, .int .i64 (i : Nat)), (6, v6)] ∧ (∃ lo6, Own lo6 2 x v6 (Ints (sT.headD []))) ∧ Below w3.heap.size w3 x) ?_ ?_
    · first|refine X.J (fun _ => ?_) (fun _ => ?_)|refine X.L (fun _ => ?_) (fun _ => ?_)|refine X.M (fun _ => ?_) (fun _ => ?_)|refine X.R (fun _ => ?_) (fun _ => ?_)|fail
      · rename_i hpos
        obtain ⟨lo6, vs6, ho6, hl6, hr6⟩ := hsj4.2.1
        dsimp only at ho6 hl6 hr6
        have hp6 : 0 < vs6.length := by omega
        have hpT : 0 < sT.length := by omega
        obtain ⟨lo7, ho7⟩ := hr6 0 _ _ (List.getElem?_eq_getElem hp6) (List.getElem?_eq_getElem hpT)
        have hS6 : SL (fun _ _ _ u x => u = x) 0 w4.heap.size w4 (.slice at2 sT.length ct2) vs6 := ho6.toSL rfl (Nat.zero_le _) (fun k hk => (ho6.block k hk).2) (Nat.le_refl _) fun i u x hu hx => by rw [hu] at hx; simpa using hx
        have hhd : sT.headD [] = sT[0] := by
          cases sT with
          | nil => simp at hpT
          | cons x r => rfl
        have hl0 := hlx.2.2.2.1 _ (List.getElem_mem hpT)
        repeat' (first|refine X.O ?_|refine X.A ?_|refine X.B ?_|refine X.C ?_|refine X.D ?_|refine X.E ?_|refine X.F ?_|refine X.G ?_|refine X.H ?_|refine X.I ?_|fail)
        refine WL.ixfld3 (j := i) (off := 1) o14 hgx (by rfl) ?_
        intro _ _
        refine WL.ixload (j := 0) hS6 (List.getElem?_eq_getElem hp6) ?_
        rintro q5 _ rfl
        refine WL.call (l01Own_grow (ho7.toIS (Nat.zero_le _)) hl0) ?_
        intro v5 w5 hN5
        repeat' (first|refine X.O ?_|refine X.A ?_|refine X.B ?_|refine X.C ?_|refine X.D ?_|refine X.E ?_|refine X.F ?_|refine X.G ?_|refine X.H ?_|refine X.I ?_|fail)
        exact ⟨v5, ⟨rfl, rfl, rfl, rfl, trivial⟩, ⟨_, by rw [hhd]; exact hN5.1⟩, hbl4.trans (Below.mono hN5.2 (by omega))⟩
      · rename_i hpos
        have hT0 : sT = [] := List.eq_nil_of_length_eq_zero (by omega)
        subst hT0
        repeat' (first|refine X.O ?_|refine X.A ?_|refine X.B ?_|refine X.C ?_|refine X.D ?_|refine X.E ?_|refine X.F ?_|refine X.G ?_|refine X.H ?_|refine X.I ?_|fail)
        exact ⟨v4, ⟨rfl, rfl, rfl, rfl, trivial⟩, ⟨_, hown4⟩, hbl4⟩
    · rintro l' w6 ⟨v6, hag, ⟨lo6, ho6⟩, hbl36⟩
      refine WP.frame _ hag ?_
      clear hag
      have hz6 := hbl36.size
      have hbl16 : Below w1.heap.size w1 w6 := hbl3.trans (Below.mono hbl36 (by omega))
      have o16 := o13.below hbl36 (Nat.le_refl _)
      have hsj6 := hsj3.tsame (TSame.below hbl36)
      have oo6 := oo.below hbl36 (Nat.le_refl _)
      have hAo6 := hAo.tsame (TSame.below hbl36)
      repeat' (first|refine X.O ?_|refine X.A ?_|refine X.B ?_|refine X.C ?_|refine X.D ?_|refine X.E ?_|refine X.F ?_|refine X.G ?_|refine X.H ?_|refine X.I ?_|fail)
      refine WP.drawn (fun w' => Below w1.heap.size w1 w') [(0, true), (1, true), (2, true), (3, true), (4, true), (5, true), (7, true), (8, true), (9, true), (10, true), (11, true), (12, true), (6, false), (13, false), (14, false), (15, false), (16, true)] (by kernel_rfl) mixed ?_
      intro w7 hs7
      have hz7 := hs7.size
      have hT7 : Below w6.heap.size w6 w7 := hs7.below _
      have hS7 : Below w1.heap.size w1 w7 := hbl16.trans (Below.mono hT7 (by omega))
      have hAS : ∀ w', Below w1.heap.size w1 w' → Own3 w.heap.size 111 w' (.slice a1 ts1.length c1) ts1 := fun w' h => o1.below h (Nat.le_refl _)
      repeat' (first|refine X.U rfl ?_|refine X.V rfl ?_|refine X.W rfl ?_|refine X.Y rfl ?_|refine X.Z rfl ?_|refine WS.nil ?_|fail)
      refine WS.ixfld3 (j := i) (off := 0) rfl rfl rfl hAS hgx (by rfl) hS7 ?_
      intro _ _
      repeat' (first|refine X.U rfl ?_|refine X.V rfl ?_|refine X.W rfl ?_|refine X.Y rfl ?_|refine X.Z rfl ?_|refine WS.nil ?_|fail)
      refine WS.ixfld3 (j := i) (off := 2) rfl rfl rfl hAS hgx (by rfl) hS7 ?_
      intro _ _
      have hsj7 := hsj6.tsame (TSame.below hT7)
      refine WS.call rfl (l01Own2_any hsj7.1.rd hlx.2.2.1 (by dsimp only; omega)) ?_
      rintro v8 w8 ⟨vs8, hR8, hbl8⟩
      have hz8 := hbl8.size
      have hT8 := hT7.trans (Below.mono hbl8 (by omega))
      have hS8 := hS7.trans (Below.mono hbl8 (by omega))
      refine ⟨hS8, ?_⟩
      have ho8 := ho6.below hT8 (Nat.le_refl _)
      obtain ⟨a8, c8, hv8⟩ := hR8.roo.shape
      obtain ⟨a6, c6, hv6, _⟩ := ho8.shape
      dsimp only at hv8
      subst hv8 hv6
      have hcr : CutR w8 (.slice a8 sC.length c8, .slice a6 (Ints (sT.headD [])).length c6, .int .i64 sN) (cutF (sC, sT, sN)) := ⟨hR8.roo, ⟨_, ho8⟩, rfl⟩
      refine WS.op rfl (o_build (us := [.slice a8 sC.length c8, .slice a6 (Ints (sT.headD [])).length c6, .int .i64 sN]) (cells := [.slice a8 sC.length c8, .slice a6 (Ints (sT.headD [])).length c6, .int .i64 sN]) (by rfl) (by rfl) ?_)
      refine ⟨hS8, ?_⟩
      refine WS.op rfl (o_lit31 (tr := (.slice a8 sC.length c8, .slice a6 (Ints (sT.headD [])).length c6, .int .i64 sN)) (by rfl) ?_)
      intro v9 w9 hown9 hbl9 hz9
      have hT9 := hT8.trans (Below.mono hbl9 (by omega))
      have hS9 := hS8.trans (Below.mono hbl9 (by omega))
      refine ⟨hS9, ?_⟩
      have oo9 := oo6.below hT9 (Nat.le_refl _)
      refine WS.op rfl (o_append3 (by rfl) (by rfl) oo9 hown9 hcr.one (by unfold maxLen; omega) (by omega) (by omega) ?_)
      intro v10 w10 hap
      have hS10 : Below w1.heap.size w1 w10 := hS9.trans hap.bel
      refine ⟨hS10, ?_⟩
      have hts := hap.tsame (e1 := 22) (e2 := 2) oo9 (by decide) (by decide)
      repeat' (first|refine X.U rfl ?_|refine X.V rfl ?_|refine X.W rfl ?_|refine X.Y rfl ?_|refine X.Z rfl ?_|refine WS.nil ?_|fail)
      repeat' (first|refine X.O ?_|refine X.A ?_|refine X.B ?_|refine X.C ?_|refine X.D ?_|refine X.E ?_|refine X.F ?_|refine X.G ?_|refine X.H ?_|refine X.I ?_|fail)
      exact ⟨(i + 1, v10), ⟨rfl, rfl, (by first|rfl|exact X.T (by omega)), trivial⟩, ⟨by dsimp only; omega, ⟨_, hap.own, by
        rw [hst]
        exact ((hAo6.tsame (TSame.below hT9)).tsame hts).snoc ((hcr.tsame (TSame.below hbl9)).tsame hts)⟩, hS10⟩, by dsimp only; omega⟩
  · rename_i hge
    have hie : i = G.length := by omega
    subst hie
    rw [List.take_length] at hAo
    repeat' (first|refine X.O ?_|refine X.A ?_|refine X.B ?_|refine X.C ?_|refine X.D ?_|refine X.E ?_|refine X.F ?_|refine X.G ?_|refine X.H ?_|refine X.I ?_|fail)
    refine ⟨_, ret1 rfl (by rfl), ?_⟩
    exact ⟨⟨to, oo.lower (by omega), hAo⟩, hbl1.trans (Below.mono hbl3 (by omega))⟩
theorem l03Find_any {lo hi lo' hi' : Nat} {w : World} {v v' : Value} {t : List Int} (h : ISS lo hi w v (treesTo 6)) (h' : IS lo' hi' w v' t) :
    Does Tryz.prog 135 [v, v'] w fun r w' => r = .int .i64 ((findT t : Nat) - 1) ∧ Still w w' := by
  have htl := treesTo_len
  obtain ⟨a, c, hv⟩ := h.shape
  rw [htl] at hv
  subst hv
  refine Does.enter Tryz.func135 Tryz.ntmps135 rfl (by rfl) ?_
  repeat' (first|refine X.O ?_|refine X.A ?_|refine X.B ?_|refine X.C ?_|refine X.D ?_|refine X.E ?_|refine X.F ?_|refine X.G ?_|refine X.H ?_|refine X.I ?_|fail)
  refine WP.loop (fun (i : Nat) => [(0, .slice a 37 c), (1, v'), (5, .int .i64 (i : Nat))])
    (fun i w2 => i ≤ 37 ∧ (∀ j (hj : j < (treesTo 6).length), j < i → (treesTo 6)[j] ≠ t) ∧ Still w w2)
    (fun i => 37 - i) 0 ⟨rfl, rfl, rfl, trivial⟩ ⟨by omega, fun j _ hj => absurd hj (by omega), Still.refl _⟩ ?_
  rintro i w2 ⟨hi1, hne, hs2⟩
  repeat' (first|refine X.O ?_|refine X.A ?_|refine X.B ?_|refine X.C ?_|refine X.D ?_|refine X.E ?_|refine X.F ?_|refine X.G ?_|refine X.H ?_|refine X.I ?_|fail)
  first|refine X.J (fun _ => ?_) (fun _ => ?_)|refine X.L (fun _ => ?_) (fun _ => ?_)|refine X.M (fun _ => ?_) (fun _ => ?_)|refine X.R (fun _ => ?_) (fun _ => ?_)|fail
  · rename_i hlt
    have hli : i < (treesTo 6).length := by omega
    repeat' (first|refine X.O ?_|refine X.A ?_|refine X.B ?_|refine X.C ?_|refine X.D ?_|refine X.E ?_|refine X.F ?_|refine X.G ?_|refine X.H ?_|refine X.I ?_|fail)
    refine WL.ixload (j := i) (h.still IS.stable hs2) (List.getElem?_eq_getElem hli) ?_
    intro p u hu
    repeat' (first|refine X.O ?_|refine X.A ?_|refine X.B ?_|refine X.C ?_|refine X.D ?_|refine X.E ?_|refine X.F ?_|refine X.G ?_|refine X.H ?_|refine X.I ?_|fail)
    refine WL.call (l01Same_any hu (h'.still RI.stable hs2)) ?_
    rintro _ w3 ⟨rfl, hs3⟩
    repeat' (first|refine X.O ?_|refine X.A ?_|refine X.B ?_|refine X.C ?_|refine X.D ?_|refine X.E ?_|refine X.F ?_|refine X.G ?_|refine X.H ?_|refine X.I ?_|fail)
    by_cases he : (treesTo 6)[i] = t
    · rw [decide_eq_true he]
      repeat' (first|refine X.O ?_|refine X.A ?_|refine X.B ?_|refine X.C ?_|refine X.D ?_|refine X.E ?_|refine X.F ?_|refine X.G ?_|refine X.H ?_|refine X.I ?_|fail)
      refine ⟨_, ret1 rfl (by rfl), ?_⟩
      exact ⟨congrArg (Value.int .i64) (by rw [findT_some hli he]; omega), hs2.trans hs3⟩
    · rw [decide_eq_false he]
      repeat' (first|refine X.O ?_|refine X.A ?_|refine X.B ?_|refine X.C ?_|refine X.D ?_|refine X.E ?_|refine X.F ?_|refine X.G ?_|refine X.H ?_|refine X.I ?_|fail)
      exact ⟨i + 1, ⟨rfl, rfl, (by first|rfl|exact X.T (by omega)), trivial⟩, ⟨by omega, fun j hj hji => by
        rcases Nat.lt_or_ge j i with h1 | h1
        · exact hne j hj h1
        · have : j = i := by omega
          subst this; exact he, hs2.trans hs3⟩, by omega⟩
  · rename_i hge
    have hie : i = 37 := by omega
    repeat' (first|refine X.O ?_|refine X.A ?_|refine X.B ?_|refine X.C ?_|refine X.D ?_|refine X.E ?_|refine X.F ?_|refine X.G ?_|refine X.H ?_|refine X.I ?_|fail)
    refine ⟨_, ret1 rfl (by rfl), ?_⟩
    exact ⟨congrArg (Value.int .i64) (by rw [findT_none (t := t) fun j hj => hne j hj (by omega)]; rfl), hs2⟩
end Go.Proofs
