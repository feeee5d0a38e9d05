/- The reference's cuts of trees, walked. -/
import Derived.Test.YtncilhecdihmeaaGreatG6
set_option maxRecDepth 8000
namespace Go.Fw
open Go Go.RowKit
/-- A forest, its values told. -/
def RooV (e e2 lo : Nat) (w : World) (v : Value) (vs : List Value) (xss : List (List Int)) : Prop := Own lo e w v vs ∧ vs.length = xss.length ∧ ∀ (i : Nat) u xs, vs[i]? = some u → xss[i]? = some xs → ∃ lo', Own lo' e2 w u (Ints xs)
section
variable {e e2 lo : Nat} {w w' : World} {v : Value} {vs : List Value} {xss : List (List Int)}
theorem RooV.roo (h : RooV e e2 lo w v vs xss) : Roo e e2 w v xss := ⟨lo, vs, h.1, h.2.1, h.2.2⟩
theorem RooV.below (h : RooV e e2 lo w v vs xss) (hb : Below w.heap.size w w') : RooV e e2 lo w' v vs xss := ⟨h.1.below hb (Nat.le_refl _), h.2.1, fun i u xs hu hx => by obtain ⟨l, h1⟩ := h.2.2 i u xs hu hx; exact ⟨l, h1.below hb (Nat.le_refl _)⟩⟩
theorem RooV.rd (h : RooV e e2 lo w v vs xss) : ISS 0 w.heap.size w v xss := h.roo.rd
theorem RooV.eq (h : RooV e e2 lo w v vs xss) : SL (fun _ _ _ u x => u = x) 0 w.heap.size w v vs := h.1.toSL rfl (Nat.zero_le _) (fun k hk => (h.1.block k hk).2) (Nat.le_refl _) fun i u x hu hx => by rw [hu] at hx; simpa using hx
theorem RooV.one (h : RooV e e2 lo w v vs xss) : ∀ u ∈ vs, u.oneCell' = true := fun u hu => by
  obtain ⟨i, hi, rfl⟩ := List.getElem_of_mem hu
  obtain ⟨l, h1⟩ := h.2.2 i _ _ (List.getElem?_eq_getElem hi) (List.getElem?_eq_getElem (by rw [← h.2.1]; exact hi))
  obtain ⟨_, _, hsh, _⟩ := h1.shape
  rw [hsh]; rfl
end
end Go.Fw
namespace Go.Proofs
open Go Go.Fw Go.RowKit Go.Rk
theorem l01Own2_any {lo hi : Nat} {w : World} {v : Value} {xss : For} (h : ISS lo hi w v xss) (hb : ∀ b ∈ xss, b.length ≤ 1000000) (hn : xss.length ≤ 1000000) :
    Does Tryz.prog 160 [v] w fun r w' => ∃ vs, RooV 22 2 w.heap.size w' r vs xss ∧ Below w.heap.size w w' := by
  obtain ⟨a, c, hv⟩ := h.shape
  subst hv
  have hhl := h.hi_le
  refine Does.enter Tryz.func160 Tryz.ntmps160 rfl (by rfl) ?_
  repeat' (first|refine X.O ?_|refine X.A ?_|refine X.B ?_|refine X.C ?_|refine X.D ?_|refine X.E ?_|refine X.F ?_|refine X.G ?_|refine X.H ?_|refine X.I ?_|fail)
  refine WL.step (o_lit (us := []) (by rfl) (by rfl) rfl (by decide) one0 ?_)
  intro v1 w1 hown1 hbl1 hz1 _
  repeat' (first|refine X.O ?_|refine X.A ?_|refine X.B ?_|refine X.C ?_|refine X.D ?_|refine X.E ?_|refine X.F ?_|refine X.G ?_|refine X.H ?_|refine X.I ?_|fail)
  refine WP.loop (fun (s : Nat × Value) => [(0, .slice a xss.length c), (3, s.2), (4, .int .i64 (s.1 : Nat))])
    (fun s w2 => s.1 ≤ xss.length ∧ (∃ vs, RooV 22 2 w.heap.size w2 s.2 vs (xss.take s.1)) ∧ Below w.heap.size w w2)
    (fun s => xss.length - s.1) (0, v1) ⟨rfl, rfl, rfl, trivial⟩ ⟨by dsimp only; omega, ⟨[], hown1, rfl, fun i u xs hu => by simp at hu⟩, hbl1⟩ ?_
  rintro ⟨i, vo⟩ w2 ⟨hi1, ⟨vs, oA⟩, hbl2⟩
  dsimp only at hi1 oA ⊢
  have hz2 := hbl2.size
  have hvl : vs.length = i := by rw [oA.2.1, List.length_take]; omega
  repeat' (first|refine X.O ?_|refine X.A ?_|refine X.B ?_|refine X.C ?_|refine X.D ?_|refine X.E ?_|refine X.F ?_|refine X.G ?_|refine X.H ?_|refine X.I ?_|fail)
  first|refine X.J (fun _ => ?_) (fun _ => ?_)|refine X.L (fun _ => ?_) (fun _ => ?_)|refine X.M (fun _ => ?_) (fun _ => ?_)|refine X.R (fun _ => ?_) (fun _ => ?_)|fail
  · rename_i hlt
    have hli : i < xss.length := by omega
    repeat' (first|refine X.O ?_|refine X.A ?_|refine X.B ?_|refine X.C ?_|refine X.D ?_|refine X.E ?_|refine X.F ?_|refine X.G ?_|refine X.H ?_|refine X.I ?_|fail)
    refine WL.ixload (j := i) (h.below IS.stable hbl2 hhl) (List.getElem?_eq_getElem hli) ?_
    intro p1 u hu
    repeat' (first|refine X.O ?_|refine X.A ?_|refine X.B ?_|refine X.C ?_|refine X.D ?_|refine X.E ?_|refine X.F ?_|refine X.G ?_|refine X.H ?_|refine X.I ?_|fail)
    refine WL.call (l01Own_grow hu (hb _ (List.getElem_mem hli))) ?_
    intro v3 w3 hN3
    have hz3 := hN3.2.size
    have oA3 := oA.below hN3.2
    obtain ⟨_, _, hv3, _⟩ := hN3.1.shape
    refine o_append1 (u := v3) (fun _ => by rfl) (by rfl) oA3.1 (by rw [hv3]; rfl) (by simp [hvl, maxLen]; omega) (by simp [hvl]; omega) (by omega) ?_
    intro p2 v4 w4 hown4 hbl4 hf4 hz4 _
    have hk : ∀ lo' x xs, Own lo' 2 w3 x (Ints xs) → Own lo' 2 w4 x (Ints xs) := fun lo' x xs hx => hx.keep fun k hk => hf4 k (hx.block k hk).2 fun e => oA3.1.ne_block hx (by decide) e hk
    repeat' (first|refine X.O ?_|refine X.A ?_|refine X.B ?_|refine X.C ?_|refine X.D ?_|refine X.E ?_|refine X.F ?_|refine X.G ?_|refine X.H ?_|refine X.I ?_|fail)
    refine ⟨(i + 1, v4), ⟨rfl, rfl, (by first|rfl|exact X.T (by omega)), trivial⟩, ⟨by dsimp only; omega, ⟨vs ++ [v3], hown4, by dsimp only; rw [List.length_append, hvl, List.length_take]; simp; omega, fun k x xs hx hxs => ?_⟩, (hbl2.trans (Below.mono hN3.2 (by omega))).trans hbl4⟩, by dsimp only; omega⟩
    dsimp only at hxs
    rw [List.take_succ_eq_append_getElem hli, List.getElem?_append] at hxs
    rw [List.getElem?_append, hvl] at hx
    have htk : (xss.take i).length = i := by rw [List.length_take]; omega
    rw [htk] at hxs
    split at hx
    · rename_i h1; rw [if_pos h1] at hxs; obtain ⟨l, h2⟩ := oA3.2.2 k x xs hx hxs; exact ⟨l, hk _ _ _ h2⟩
    · rename_i h1
      rw [if_neg h1] at hxs
      have h0 : k - i = 0 := by have := (List.getElem?_eq_some_iff.1 hx).1; simp only [List.length_singleton] at this; omega
      rw [h0] at hx hxs
      simp at hx hxs
      subst hx hxs
      exact ⟨_, hk _ _ _ hN3.1⟩
  · rename_i hge
    have : i = xss.length := by omega
    subst this
    rw [List.take_length] at oA
    repeat' (first|refine X.O ?_|refine X.A ?_|refine X.B ?_|refine X.C ?_|refine X.D ?_|refine X.E ?_|refine X.F ?_|refine X.G ?_|refine X.H ?_|refine X.I ?_|fail)
    refine ⟨_, ret1 rfl (by rfl), ?_⟩
    exact ⟨vs, oA, hbl2⟩
set_option maxHeartbeats 1000000 in
theorem l03Sort_any {lo hi : Nat} {w : World} {v : Value} {f : For} (h : ISS lo hi w v f) (hb : ∀ b ∈ f, b.length ≤ 1000000) (hn : f.length ≤ 1000) :
    Does Tryz.prog 191 [v] w fun r w' => Roo 22 2 w' r (sortTS f) ∧ Below w.heap.size w w' := by
  obtain ⟨a, c, hv⟩ := h.shape
  subst hv
  have hhl := h.hi_le
  refine Does.enter Tryz.func191 Tryz.ntmps191 rfl (by rfl) ?_
  repeat' (first|refine X.O ?_|refine X.A ?_|refine X.B ?_|refine X.C ?_|refine X.D ?_|refine X.E ?_|refine X.F ?_|refine X.G ?_|refine X.H ?_|refine X.I ?_|fail)
  refine WL.step (o_lit (us := []) (by rfl) (by rfl) rfl (by decide) one0 ?_)
  intro v1 w1 hown1 hbl1 hz1 _
  repeat' (first|refine X.O ?_|refine X.A ?_|refine X.B ?_|refine X.C ?_|refine X.D ?_|refine X.E ?_|refine X.F ?_|refine X.G ?_|refine X.H ?_|refine X.I ?_|fail)
  refine WP.loop (fun (s : Nat × Value) => [(0, .slice a f.length c), (3, s.2), (4, .int .i64 (s.1 : Nat))])
    (fun s w2 => s.1 ≤ f.length ∧ (∃ vs, RooV 22 2 w.heap.size w2 s.2 vs (sortTS (f.take s.1))) ∧ Below w.heap.size w w2)
    (fun s => f.length - s.1) (0, v1) ⟨rfl, rfl, rfl, trivial⟩ ⟨by dsimp only; omega, ⟨[], hown1, rfl, fun i u xs hu => by simp at hu⟩, hbl1⟩ ?_
  rintro ⟨i, vo⟩ w2 ⟨hi1, ⟨vs, oA⟩, hbl2⟩
  dsimp only at hi1 oA ⊢
  have hz2 := hbl2.size
  have hsl : (sortTS (f.take i)).length = i := by rw [sortTS_len, List.length_take]; omega
  repeat' (first|refine X.O ?_|refine X.A ?_|refine X.B ?_|refine X.C ?_|refine X.D ?_|refine X.E ?_|refine X.F ?_|refine X.G ?_|refine X.H ?_|refine X.I ?_|fail)
  first|refine X.J (fun _ => ?_) (fun _ => ?_)|refine X.L (fun _ => ?_) (fun _ => ?_)|refine X.M (fun _ => ?_) (fun _ => ?_)|refine X.R (fun _ => ?_) (fun _ => ?_)|fail
  · rename_i hlt
    have hli : i < f.length := by omega
    have hbi := hb _ (List.getElem_mem hli)
    have hsu := sortTS_succ hli
    have hvl : vs.length = i := by rw [oA.2.1, hsl]
    obtain ⟨ss, hss⟩ : ∃ ss, sortTS (f.take i) = ss := ⟨_, rfl⟩
    rw [hss] at oA hsl hsu
    obtain ⟨x, hxE⟩ : ∃ x, f[i] = x := ⟨_, rfl⟩
    rw [hxE] at hsu hbi
    rw [insT_at] at hsu
    have hatl := atT_le x ss
    obtain ⟨ao, co, hvo, hcap, _⟩ := oA.1.shape
    rw [hvl] at hvo hcap
    subst hvo
    have hx2 := h.below IS.stable hbl2 hhl
    repeat' (first|refine X.O ?_|refine X.A ?_|refine X.B ?_|refine X.C ?_|refine X.D ?_|refine X.E ?_|refine X.F ?_|refine X.G ?_|refine X.H ?_|refine X.I ?_|fail)
    refine WP.midB (fun l' wz => Agree l' [(0, .slice a f.length c), (3, .slice ao i co), (4, .int .i64 (i : Nat)), (5, .int .i64 (atT x ss : Nat))] ∧ Still w2 wz) ?_ ?_
    · refine WP.loop (fun (m : Nat) => [(0, .slice a f.length c), (3, .slice ao i co), (4, .int .i64 (i : Nat)), (5, .int .i64 (m : Nat))])
        (fun m w3 => m ≤ ss.length ∧ atT x ss = m + atT x (ss.drop m) ∧ Still w2 w3) (fun m => ss.length - m) 0 ⟨rfl, rfl, rfl, rfl, trivial⟩ ⟨by omega, by simp, Still.refl _⟩ ?_
      rintro m w3 ⟨hm, hin, hs3⟩
      have hz3 := hs3.size
      repeat' (first|refine X.O ?_|refine X.A ?_|refine X.B ?_|refine X.C ?_|refine X.D ?_|refine X.E ?_|refine X.F ?_|refine X.G ?_|refine X.H ?_|refine X.I ?_|fail)
      by_cases hmlt : m < ss.length
      · rw [atT_drop hmlt] at hin
        refine WP.drawn (fun w' => w'.heap = w3.heap) [(0, true), (1, true), (2, true), (3, true), (4, true), (5, true), (6, true), (7, true), (8, true), (9, true), (10, true), (11, true), (12, true), (13, false), (14, true), (15, true)] (by kernel_rfl) mixed ?_
        intro w4 hs4
        have hw4 : w4.heap = w3.heap := hs4.heap
        have hs24 := hs3.trans hs4
        refine WS.q rfl (q_s (by rfl)) hw4 ?_
        refine WS.q rfl (q_s (by rfl)) hw4 ?_
        refine WS.q rfl (q_len (by rfl)) hw4 ?_
        refine WS.q rfl (q_s (by rfl)) hw4 ?_
        rw [decide_eq_true (show (m : Int) < (i : Nat) by omega)]
        repeat' (first|refine X.U rfl ?_|refine X.V rfl ?_|refine X.W rfl ?_|refine X.Y rfl ?_|refine X.Z rfl ?_|refine WS.nil ?_|fail)
        refine WS.ixload (j := i) rfl rfl (hx2.still IS.stable hs24) (List.getElem?_eq_getElem hli) (fun w' hw' => same_heap (hw'.trans hw4.symm)) hw4 ?_
        intro p1 u hu
        rw [hxE] at hu
        repeat' (first|refine X.U rfl ?_|refine X.V rfl ?_|refine X.W rfl ?_|refine X.Y rfl ?_|refine X.Z rfl ?_|refine WS.nil ?_|fail)
        refine WS.ixload (j := m) rfl rfl (oA.rd.still IS.stable hs24) (List.getElem?_eq_getElem hmlt) (fun w' hw' => same_heap (hw'.trans hw4.symm)) hw4 ?_
        intro p2 u2 hu2
        refine WS.call rfl (l03Before_any hu hu2) ?_
        rintro _ w5 ⟨rfl, hs5⟩
        have hw5 : w5.heap = w3.heap := hs5.heap.trans hw4
        refine ⟨hw5, ?_⟩
        repeat' (first|refine X.U rfl ?_|refine X.V rfl ?_|refine X.W rfl ?_|refine X.Y rfl ?_|refine X.Z rfl ?_|refine WS.nil ?_|fail)
        have hs25 := hs24.trans hs5
        repeat' (first|refine X.O ?_|refine X.A ?_|refine X.B ?_|refine X.C ?_|refine X.D ?_|refine X.E ?_|refine X.F ?_|refine X.G ?_|refine X.H ?_|refine X.I ?_|fail)
        first|refine X.J (fun _ => ?_) (fun _ => ?_)|refine X.L (fun _ => ?_) (fun _ => ?_)|refine X.M (fun _ => ?_) (fun _ => ?_)|refine X.R (fun _ => ?_) (fun _ => ?_)|fail
        · rename_i hnb
          rw [if_neg hnb] at hin
          repeat' (first|refine X.O ?_|refine X.A ?_|refine X.B ?_|refine X.C ?_|refine X.D ?_|refine X.E ?_|refine X.F ?_|refine X.G ?_|refine X.H ?_|refine X.I ?_|fail)
          exact ⟨m + 1, ⟨rfl, rfl, rfl, (by first|rfl|exact X.T (by omega)), trivial⟩, ⟨by omega, hin, hs25⟩, by omega⟩
        · rename_i hnb
          rw [if_pos hnb] at hin
          subst hin
          repeat' (first|refine X.O ?_|refine X.A ?_|refine X.B ?_|refine X.C ?_|refine X.D ?_|refine X.E ?_|refine X.F ?_|refine X.G ?_|refine X.H ?_|refine X.I ?_|fail)
          exact ⟨⟨rfl, rfl, rfl, rfl, trivial⟩, hs25⟩
      · rw [List.drop_eq_nil_of_le (by omega)] at hin
        have hme : atT x ss = m := hin
        refine WP.drawn (fun w' => w'.heap = w3.heap) [(0, true), (1, true), (2, true), (3, true), (4, true), (5, true), (6, true), (7, true), (8, true), (9, true), (10, true), (11, true), (12, true), (13, true), (14, true), (15, true)] (by kernel_rfl) mixed ?_
        intro w4 hs4
        have hw4 : w4.heap = w3.heap := hs4.heap
        refine WS.q rfl (q_s (by rfl)) hw4 ?_
        refine WS.q rfl (q_s (by rfl)) hw4 ?_
        refine WS.q rfl (q_len (by rfl)) hw4 ?_
        refine WS.q rfl (q_s (by rfl)) hw4 ?_
        rw [decide_eq_false (show ¬ (m : Int) < (i : Nat) by omega)]
        repeat' (first|refine X.Z rfl ?_|refine X.U rfl ?_|refine WS.nil ?_|fail)
        subst hme
        repeat' (first|refine X.O ?_|refine X.A ?_|refine X.B ?_|refine X.C ?_|refine X.D ?_|refine X.E ?_|refine X.F ?_|refine X.G ?_|refine X.H ?_|refine X.I ?_|fail)
        exact ⟨⟨rfl, rfl, rfl, rfl, trivial⟩, hs3.trans hs4⟩
    · rintro l' w3 ⟨hag, hs3⟩
      refine WP.frame _ hag ?_
      clear hag
      have hz3 := hs3.size
      have oA3 := oA.below (hs3.below _)
      obtain ⟨m, hme⟩ : ∃ m, atT x ss = m := ⟨_, rfl⟩
      rw [hme] at hatl hsu ⊢
      repeat' (first|refine X.O ?_|refine X.A ?_|refine X.B ?_|refine X.C ?_|refine X.D ?_|refine X.E ?_|refine X.F ?_|refine X.G ?_|refine X.H ?_|refine X.I ?_|fail)
      refine WP.drawn (fun w' => Below w3.heap.size w3 w') [(0, true), (1, true), (2, true), (3, true), (6, true), (7, true), (8, true), (4, false), (5, false), (9, false), (10, true)] (by kernel_rfl) mixed ?_
      intro w4 hs4
      have hz4 := hs4.size
      have hS4 : Below w3.heap.size w3 w4 := hs4.below _
      repeat' (first|refine X.U rfl ?_|refine X.V rfl ?_|refine X.W rfl ?_|refine X.Y rfl ?_|refine X.Z rfl ?_|refine WS.nil ?_|fail)
      refine WS.ixload (j := i) rfl rfl ((hx2.still IS.stable hs3).still IS.stable hs4) (List.getElem?_eq_getElem hli) (fun w' hw' => same_below hS4 hw' (by omega)) hS4 ?_
      intro p1 u hu
      rw [hxE] at hu
      repeat' (first|refine X.U rfl ?_|refine X.V rfl ?_|refine X.W rfl ?_|refine X.Y rfl ?_|refine X.Z rfl ?_|refine WS.nil ?_|fail)
      refine WS.q rfl (q_sliceL (i := m) (by rfl) (by rfl) (by omega)) hS4 ?_
      refine WS.call rfl (l01Own_grow hu hbi) ?_
      intro v5 w5 hN5
      have hz5 := hN5.2.size
      have hS5 := hS4.trans (Below.mono hN5.2 (by omega))
      refine ⟨hS5, ?_⟩
      obtain ⟨a5, n5, c5, rfl⟩ : ∃ a n c, v5 = Value.slice a n c := by obtain ⟨a, c, h, _⟩ := hN5.1.shape; exact ⟨_, _, _, h⟩
      refine WS.op rfl (o_lit (us := [.slice a5 n5 c5]) (by rfl) (by rfl) rfl (by decide) (one1 rfl) ?_)
      intro v6 w6 hown6 hbl6 hz6 _
      have hS6 := hS5.trans (Below.mono hbl6 (by omega))
      refine ⟨hS6, ?_⟩
      have oA6 := oA3.below hS6
      refine WS.op rfl (o_append (us := [.slice a5 n5 c5]) (news := vs.drop m) (by rfl) (by rfl) hown6 (SL.src (SL.drop oA6.eq (by omega))) (fun u hu => oA6.one u (List.mem_of_mem_drop hu)) (by simp [maxLen]; omega) (by simp; omega) (by omega) ?_)
      intro v7 w7 hown7 hg7 hbl7 _
      have hz7 := hg7.size
      have hS7 : Below w3.heap.size w3 w7 := hS6.trans (Below.mono hbl7 (by omega))
      refine ⟨hS7, ?_⟩
      repeat' (first|refine X.U rfl ?_|refine X.V rfl ?_|refine X.W rfl ?_|refine X.Y rfl ?_|refine X.Z rfl ?_|refine WS.nil ?_|fail)
      have oA7 := oA3.below hS7
      have hrow5 : Own w4.heap.size 2 w7 (.slice a5 n5 c5) (Ints x) := (hN5.1.below hbl6 (Nat.le_refl _)).keep fun k hk => hbl7.block k (by have := (hN5.1.block k hk).2; omega)
      repeat' (first|refine X.O ?_|refine X.A ?_|refine X.B ?_|refine X.C ?_|refine X.D ?_|refine X.E ?_|refine X.F ?_|refine X.G ?_|refine X.H ?_|refine X.I ?_|fail)
      refine WL.step (o_lit (us := []) (by rfl) (by rfl) rfl (by decide) one0 ?_)
      intro v8 w8 hown8 hbl8 hz8 _
      have oA8 := oA7.below hbl8
      repeat' (first|refine X.O ?_|refine X.A ?_|refine X.B ?_|refine X.C ?_|refine X.D ?_|refine X.E ?_|refine X.F ?_|refine X.G ?_|refine X.H ?_|refine X.I ?_|fail)
      refine WL.step (o_sliceH (i := m) (by rfl) (by rfl) (by omega) ?_)
      refine WL.step (o_append (us := []) (news := vs.take m) (by rfl) (by rfl) hown8 (SL.src (by have := SL.take oA8.eq (i := m) (by omega); exact this)) (fun u hu => oA8.one u (List.mem_of_mem_take hu)) (by simp [maxLen]; omega) (by simp; omega) (by omega) ?_)
      intro v9 w9 hown9 hg9 hbl9 _
      have hz9 := hg9.size
      have hbl79 : Below w7.heap.size w7 w9 := hbl8.trans hbl9
      repeat' (first|refine X.O ?_|refine X.A ?_|refine X.B ?_|refine X.C ?_|refine X.D ?_|refine X.E ?_|refine X.F ?_|refine X.G ?_|refine X.H ?_|refine X.I ?_|fail)
      refine WL.step (o_append (us := [] ++ vs.take m) (news := [.slice a5 n5 c5] ++ vs.drop m) (by rfl) (by rfl) hown9 (hown7.below hbl79 (Nat.le_refl _)).src (fun u hu => by
        rcases List.mem_append.1 hu with hu | hu
        · simp only [List.mem_singleton] at hu; subst hu; rfl
        · exact oA8.one u (List.mem_of_mem_drop hu)) (by simp [maxLen]; omega) (by simp; omega) (by omega) ?_)
      intro v10 w10 hown10 hg10 hbl10 _
      have hz10 := hg10.size
      have hbl7a : Below w7.heap.size w7 w10 := hbl79.trans (Below.mono hbl10 (by omega))
      have oA10 := oA7.below hbl7a
      have hrow10 := hrow5.below hbl7a (Nat.le_refl _)
      repeat' (first|refine X.O ?_|refine X.A ?_|refine X.B ?_|refine X.C ?_|refine X.D ?_|refine X.E ?_|refine X.F ?_|refine X.G ?_|refine X.H ?_|refine X.I ?_|fail)
      refine ⟨(i + 1, v10), ⟨rfl, rfl, (by first|rfl|exact X.T (by omega)), trivial⟩, ⟨by dsimp only; omega, ⟨vs.take m ++ ([.slice a5 n5 c5] ++ vs.drop m), ?_, ?_, fun k y ys hy hys => ?_⟩, (hbl2.trans (hs3.below _)).trans ((Below.mono hS7 (by omega)).trans (Below.mono hbl7a (by omega)))⟩, by dsimp only; omega⟩
      · exact (by simpa using hown10 : Own w7.heap.size 22 w10 v10 (vs.take m ++ ([.slice a5 n5 c5] ++ vs.drop m))).lower (by omega)
      · dsimp only; rw [hsu]; simp [hvl, hsl]
      · dsimp only at hys
        rw [hsu] at hys
        rcases ins_get (by rw [hvl, hsl]) hy hys with ⟨j, h1, h2⟩ | ⟨h1, h2⟩
        · exact oA10.2.2 j y ys h1 h2
        · subst h1 h2; exact ⟨_, hrow10⟩
  · rename_i hge
    have : i = f.length := by omega
    subst this
    rw [List.take_length] at oA
    repeat' (first|refine X.O ?_|refine X.A ?_|refine X.B ?_|refine X.C ?_|refine X.D ?_|refine X.E ?_|refine X.F ?_|refine X.G ?_|refine X.H ?_|refine X.I ?_|fail)
    refine ⟨_, ret1 rfl (by rfl), ?_⟩
    exact ⟨oA.roo, hbl2⟩
theorem l03Times_any {lo hi : Nat} {w : World} {v v' : Value} {f g : For} (h : ISS lo hi w v f) (h' : Roo 22 2 w v' g) (hf : ∀ b ∈ f, b.length ≤ 1000000) (hg : ∀ b ∈ g, b.length ≤ 1000000) (hn : f.length + g.length ≤ 1000) :
    Does Tryz.prog 207 [v, v'] w fun r w' => Roo 22 2 w' r (timesF f g) ∧ Below w.heap.size w w' := by
  refine Does.enter Tryz.func207 Tryz.ntmps207 rfl (by rfl) ?_
  repeat' (first|refine X.O ?_|refine X.A ?_|refine X.B ?_|refine X.C ?_|refine X.D ?_|refine X.E ?_|refine X.F ?_|refine X.G ?_|refine X.H ?_|refine X.I ?_|fail)
  refine WL.call (l01Own2_any h hf (by omega)) ?_
  rintro v1 w1 ⟨vs1, o1, hbl1⟩
  have hz1 := hbl1.size
  obtain ⟨lo2, us, hu1, hu2, hu3⟩ := h'.tsame (TSame.below hbl1)
  have o2 : RooV 22 2 lo2 w1 v' us g := ⟨hu1, hu2, hu3⟩
  have hl1 := o1.2.1
  repeat' (first|refine X.O ?_|refine X.A ?_|refine X.B ?_|refine X.C ?_|refine X.D ?_|refine X.E ?_|refine X.F ?_|refine X.G ?_|refine X.H ?_|refine X.I ?_|fail)
  refine WL.step (o_append (us := vs1) (news := us) (by rfl) (by rfl) o1.1 hu1.src o2.one (by rw [hl1, hu2]; unfold maxLen; omega) (by rw [hl1, hu2]; omega) (by omega) ?_)
  intro v3 w3 hown3 hg3 hbl3 _
  have hz3 := hg3.size
  have hk : ∀ lo' x xs, Own lo' 2 w1 x (Ints xs) → Own lo' 2 w3 x (Ints xs) := fun lo' x xs hx => hx.keep fun k hk => hg3.block k (hx.block k hk).2 fun e => o1.1.ne_block hx (by decide) e.symm hk
  have hR : Roo 22 2 w3 v3 (f ++ g) := Roo.append (v1 := v) hown3 hl1 hu2 (fun i u xs hu hx => by obtain ⟨l, h1⟩ := o1.2.2 i u xs hu hx; exact ⟨l, hk _ _ _ h1⟩) (fun i u xs hu hx => by obtain ⟨l, h1⟩ := hu3 i u xs hu hx; exact ⟨l, hk _ _ _ h1⟩)
  refine WL.call (l03Sort_any hR.rd (fun b hb => by
    rcases List.mem_append.1 hb with h1 | h1
    · exact hf b h1
    · exact hg b h1) (by rw [List.length_append]; omega)) ?_
  rintro v4 w4 ⟨hR4, hbl4⟩
  repeat' (first|refine X.O ?_|refine X.A ?_|refine X.B ?_|refine X.C ?_|refine X.D ?_|refine X.E ?_|refine X.F ?_|refine X.G ?_|refine X.H ?_|refine X.I ?_|fail)
  refine ⟨_, ret1 rfl (by rfl), ?_⟩
  exact ⟨hR4, (hbl1.trans hbl3).trans (Below.mono hbl4 (by omega))⟩
theorem l03Branches_any {lo hi : Nat} {w : World} {v : Value} {t : List Int} (h : IS lo hi w v t) (ht : Lv t) (h8 : t.length ≤ 8) :
    Does Tryz.prog 176 [v] w fun r w' => Roo 22 2 w' r (branchesS t) ∧ Below w.heap.size w w' := by
  have hc := canonL_ok 8 ht h8 h8
  have hbr := branches_ok hc.1
  have hcnt := branchesL_count hc.1
  have hbl := Lv.le_flat (f := branchesL (canonL 8 t)) (fun b hb => (hbr.2 b hb).1)
  refine Does.enter Tryz.func176 Tryz.ntmps176 rfl (by rfl) ?_
  repeat' (first|refine X.O ?_|refine X.A ?_|refine X.B ?_|refine X.C ?_|refine X.D ?_|refine X.E ?_|refine X.F ?_|refine X.G ?_|refine X.H ?_|refine X.I ?_|fail)
  refine WL.call (l03Canon_any 8 (by omega) h ht h8) ?_
  intro v1 w1 hN1
  have hz1 := hN1.2.size
  refine WL.call (l03Parts_any hN1.ow.rd hc.1 (by omega)) ?_
  rintro v2 w2 ⟨⟨vs2, o2⟩, hbl2⟩
  have hz2 := hbl2.size
  refine WL.call (l03Sort_any o2.rd (fun b hb => by have := (hbr.2 b hb).2; omega) (by omega)) ?_
  rintro v3 w3 ⟨hR3, hbl3⟩
  repeat' (first|refine X.O ?_|refine X.A ?_|refine X.B ?_|refine X.C ?_|refine X.D ?_|refine X.E ?_|refine X.F ?_|refine X.G ?_|refine X.H ?_|refine X.I ?_|fail)
  refine ⟨_, ret1 rfl (by rfl), ?_⟩
  exact ⟨hR3, (hN1.2.trans (Below.mono hbl2 (by omega))).trans (Below.mono hbl3 (by omega))⟩
theorem l03Root_any {lo hi : Nat} {w : World} {v : Value} {bs : For} (h : ISS lo hi w v bs) (hL : ∀ b ∈ bs, Lv b) (h7 : bs.flatten.length ≤ 7) :
    Does Tryz.prog 178 [v] w fun r w' => NewI w r w' (canonL 8 (rootL bs)) := by
  obtain ⟨a, c, hv⟩ := h.shape
  subst hv
  have hhl := h.hi_le
  have hb : ∀ b ∈ bs, b.length ≤ 1000 ∧ ∀ x ∈ b, 0 ≤ x ∧ x ≤ 1000 := fun b hb => by
    have h1 := mem_le_flat hb
    exact ⟨by omega, fun x hx => by have := (hL b hb).bdm x hx; omega⟩
  have hn : bs.length ≤ 1000 := by have := Lv.le_flat hL; omega
  have hfl := rootF_len (bs := bs) fun b hb' => (hb b hb').1
  refine Does.enter Tryz.func178 Tryz.ntmps178 rfl (by rfl) ?_
  repeat' (first|refine X.O ?_|refine X.A ?_|refine X.B ?_|refine X.C ?_|refine X.D ?_|refine X.E ?_|refine X.F ?_|refine X.G ?_|refine X.H ?_|refine X.I ?_|fail)
  refine WL.step (o_lit (us := Ints [0]) (by rfl) (by rfl) rfl (by decide) Ints_one ?_)
  intro v1 w1 hown1 hbl1 hz1 _
  repeat' (first|refine X.O ?_|refine X.A ?_|refine X.B ?_|refine X.C ?_|refine X.D ?_|refine X.E ?_|refine X.F ?_|refine X.G ?_|refine X.H ?_|refine X.I ?_|fail)
  refine WP.loop (fun (s : Nat × Value) => [(0, .slice a bs.length c), (3, s.2), (4, .int .i64 (s.1 : Nat))])
    (fun s w2 => s.1 ≤ bs.length ∧ Own w.heap.size 2 w2 s.2 (Ints (rootF bs s.1)) ∧ Below w.heap.size w w2)
    (fun s => bs.length - s.1) (0, v1) ⟨rfl, rfl, rfl, trivial⟩ ⟨by dsimp only; omega, hown1, hbl1⟩ ?_
  rintro ⟨i, vo⟩ w2 ⟨hi1, hown2, hbl2⟩
  dsimp only at hi1 hown2 ⊢
  have hz2 := hbl2.size
  have hf1 := hfl i
  repeat' (first|refine X.O ?_|refine X.A ?_|refine X.B ?_|refine X.C ?_|refine X.D ?_|refine X.E ?_|refine X.F ?_|refine X.G ?_|refine X.H ?_|refine X.I ?_|fail)
  first|refine X.J (fun _ => ?_) (fun _ => ?_)|refine X.L (fun _ => ?_) (fun _ => ?_)|refine X.M (fun _ => ?_) (fun _ => ?_)|refine X.R (fun _ => ?_) (fun _ => ?_)|fail
  · rename_i hlt
    have hli : i < bs.length := by omega
    have hbi := hb _ (List.getElem_mem hli)
    repeat' (first|refine X.O ?_|refine X.A ?_|refine X.B ?_|refine X.C ?_|refine X.D ?_|refine X.E ?_|refine X.F ?_|refine X.G ?_|refine X.H ?_|refine X.I ?_|fail)
    refine WP.loop (fun (s : Nat × Value) => [(0, .slice a bs.length c), (3, s.2), (4, .int .i64 (i : Nat)), (5, .int .i64 (s.1 : Nat))])
      (fun s w3 => s.1 ≤ bs[i].length ∧ Own w.heap.size 2 w3 s.2 (Ints (rootF bs i ++ (bs[i].take s.1).map (· + 1))) ∧ Below w.heap.size w w3)
      (fun s => bs[i].length - s.1) (0, vo) ⟨rfl, rfl, rfl, rfl, trivial⟩ ⟨by dsimp only; omega, by simpa using hown2, hbl2⟩ ?_
    rintro ⟨k, vo3⟩ w3 ⟨hk1, hown3, hbl3⟩
    dsimp only at hk1 hown3 ⊢
    have hz3 := hbl3.size
    repeat' (first|refine X.O ?_|refine X.A ?_|refine X.B ?_|refine X.C ?_|refine X.D ?_|refine X.E ?_|refine X.F ?_|refine X.G ?_|refine X.H ?_|refine X.I ?_|fail)
    refine WL.ixload (j := i) (h.below IS.stable hbl3 hhl) (List.getElem?_eq_getElem hli) ?_
    intro p1 u hu
    obtain ⟨au, cu, hvu⟩ := hu.shape
    subst hvu
    repeat' (first|refine X.O ?_|refine X.A ?_|refine X.B ?_|refine X.C ?_|refine X.D ?_|refine X.E ?_|refine X.F ?_|refine X.G ?_|refine X.H ?_|refine X.I ?_|fail)
    first|refine X.J (fun _ => ?_) (fun _ => ?_)|refine X.L (fun _ => ?_) (fun _ => ?_)|refine X.M (fun _ => ?_) (fun _ => ?_)|refine X.R (fun _ => ?_) (fun _ => ?_)|fail
    · rename_i hltk
      have hlk : k < bs[i].length := by omega
      have hxk := hbi.2 _ (List.getElem_mem hlk)
      repeat' (first|refine X.O ?_|refine X.A ?_|refine X.B ?_|refine X.C ?_|refine X.D ?_|refine X.E ?_|refine X.F ?_|refine X.G ?_|refine X.H ?_|refine X.I ?_|fail)
      refine WL.ixload (j := i) (h.below IS.stable hbl3 hhl) (List.getElem?_eq_getElem hli) ?_
      intro p2 u2 hu2
      repeat' (first|refine X.O ?_|refine X.A ?_|refine X.B ?_|refine X.C ?_|refine X.D ?_|refine X.E ?_|refine X.F ?_|refine X.G ?_|refine X.H ?_|refine X.I ?_|fail)
      refine WL.ixload (j := k) hu2 (List.getElem?_eq_getElem hlk) ?_
      rintro p3 _ rfl
      repeat' (first|refine X.O ?_|refine X.A ?_|refine X.B ?_|refine X.C ?_|refine X.D ?_|refine X.E ?_|refine X.F ?_|refine X.G ?_|refine X.H ?_|refine X.I ?_|fail)
      have hlen : (rootF bs i ++ (bs[i].take k).map (· + 1)).length = (rootF bs i).length + k := by rw [List.length_append, List.length_map, List.length_take]; omega
      refine o_append1 (u := .int .i64 (bs[i][k] + 1)) (fun _ => by rfl) (by rfl) hown3 rfl (by rw [Ints_length, hlen]; simp [maxLen]; omega) (by rw [Ints_length, hlen]; omega) (by omega) ?_
      intro p4 v4 w4 hown4 hbl4 _ hz4 _
      repeat' (first|refine X.O ?_|refine X.A ?_|refine X.B ?_|refine X.C ?_|refine X.D ?_|refine X.E ?_|refine X.F ?_|refine X.G ?_|refine X.H ?_|refine X.I ?_|fail)
      refine ⟨(k + 1, v4), ⟨rfl, rfl, rfl, (by first|rfl|exact X.T (by omega)), trivial⟩, ⟨by dsimp only; omega, ?_, hbl3.trans hbl4⟩, by dsimp only; omega⟩
      dsimp only
      rw [List.take_succ_eq_append_getElem hlk, List.map_append, ← List.append_assoc, Ints_append]
      exact hown4
    · rename_i hgek
      have hke : k = bs[i].length := by omega
      subst hke
      rw [List.take_length, ← rootF_succ hli] at hown3
      repeat' (first|refine X.O ?_|refine X.A ?_|refine X.B ?_|refine X.C ?_|refine X.D ?_|refine X.E ?_|refine X.F ?_|refine X.G ?_|refine X.H ?_|refine X.I ?_|fail)
      exact ⟨(i + 1, vo3), ⟨rfl, rfl, (by first|rfl|exact X.T (by omega)), trivial⟩, ⟨by dsimp only; omega, hown3, hbl3⟩, by dsimp only; omega⟩
  · rename_i hge
    have hie : i = bs.length := by omega
    subst hie
    rw [rootF_all] at hown2
    repeat' (first|refine X.O ?_|refine X.A ?_|refine X.B ?_|refine X.C ?_|refine X.D ?_|refine X.E ?_|refine X.F ?_|refine X.G ?_|refine X.H ?_|refine X.I ?_|fail)
    refine WL.call (l03Canon_any 8 (by omega) (hown2.toIS (Nat.zero_le _)) (rootL_lv hL) (by rw [rootL_length]; omega)) ?_
    intro v3 w3 hN3
    repeat' (first|refine X.O ?_|refine X.A ?_|refine X.B ?_|refine X.C ?_|refine X.D ?_|refine X.E ?_|refine X.F ?_|refine X.G ?_|refine X.H ?_|refine X.I ?_|fail)
    refine ⟨_, ret1 rfl (by rfl), ?_⟩
    exact hN3.trans hbl2
end Go.Proofs
