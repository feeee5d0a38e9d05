/- The trees with n nodes: the program's list. -/
import Derived.Test.YthepgmajeljdhaaGreatDoorA5
import Derived.Test.YthepgmajeljdhaaGreatDoorA29
import Derived.Test.YthepgmajeljdhaaGreatDoorPlA
namespace Go.Proofs
open Go Go.Fw Go.RowKit Go.Rk
theorem treesOf_any (n : Nat) (hn0 : 1 ≤ n) (hn1 : n ≤ 6) (w : World) : Does Tryz.prog 102 [.int .i64 (n : Nat)] w fun r w' => NewSS 25 2 w r w' (treesN n) := by
  have hok := treesN_ok hn0 hn1
  have hle := treesN_le hn0 hn1
  have hfl := firstT_length n
  refine Does.enter Tryz.func102 Tryz.ntmps102 rfl (by rfl) ?_
  repeat' (first|refine X.O ?_|refine X.A ?_|refine X.B ?_|refine X.C ?_|refine X.D ?_|refine X.E ?_|refine X.F ?_|refine X.G ?_|refine X.H ?_|refine X.I ?_|fail)
  refine WL.step (o_lit (us := []) (by rfl) (by rfl) rfl (by decide) one0 ?_)
  intro v1 w1 hown1 hbl1 hz1 _
  refine WL.step (o_lit (us := []) (by rfl) (by rfl) rfl (by decide) one0 ?_)
  intro v2 w2 hown2 hbl2 hz2 _
  have hbl12 : Below w.heap.size w w2 := hbl1.trans (Below.mono hbl2 (by omega))
  repeat' (first|refine X.O ?_|refine X.A ?_|refine X.B ?_|refine X.C ?_|refine X.D ?_|refine X.E ?_|refine X.F ?_|refine X.G ?_|refine X.H ?_|refine X.I ?_|fail)
  refine WP.loop (fun (s : Nat × Value) => [(0, .int .i64 (n : Nat)), (3, s.2), (4, v2), (11, .int .i64 (n : Nat)), (12, .int .i64 (s.1 : Nat))])
    (fun s w3 => s.1 ≤ n ∧ Own w.heap.size 2 w3 s.2 (Ints ((firstT n).take s.1)) ∧ Own w.heap.size 25 w3 v2 [] ∧ Below w.heap.size w w3)
    (fun s => n - s.1) (0, v1) ⟨rfl, rfl, rfl, rfl, rfl, trivial⟩ ⟨by dsimp only; omega, by simpa [Ints] using hown1.below hbl2 (Nat.le_refl _), hown2.lower (by omega), hbl12⟩ ?_
  rintro ⟨i, vt⟩ w3 ⟨hi1, hown3, ho3, hbl3⟩
  dsimp only at hi1 hown3 ⊢
  have hz3 := hbl3.size
  repeat' (first|refine X.O ?_|refine X.A ?_|refine X.B ?_|refine X.C ?_|refine X.D ?_|refine X.E ?_|refine X.F ?_|refine X.G ?_|refine X.H ?_|refine X.I ?_|fail)
  first|refine X.J (fun _ => ?_) (fun _ => ?_)|refine X.L (fun _ => ?_) (fun _ => ?_)|refine X.M (fun _ => ?_) (fun _ => ?_)|refine X.R (fun _ => ?_) (fun _ => ?_)|fail
  · rename_i hlt
    have hli : i < n := by omega
    repeat' (first|refine X.O ?_|refine X.A ?_|refine X.B ?_|refine X.C ?_|refine X.D ?_|refine X.E ?_|refine X.F ?_|refine X.G ?_|refine X.H ?_|refine X.I ?_|fail)
    refine o_append1 (u := .int .i64 _) (fun _ => by rfl) (by rfl) hown3 rfl (by simp [Ints, hfl, maxLen]; omega) (by simp [Ints, hfl]; omega) (by omega) ?_
    intro p1 v4 w4 hown4 hbl4 hf4 hz4 _
    repeat' (first|refine X.O ?_|refine X.A ?_|refine X.B ?_|refine X.C ?_|refine X.D ?_|refine X.E ?_|refine X.F ?_|refine X.G ?_|refine X.H ?_|refine X.I ?_|fail)
    refine ⟨(i + 1, v4), ⟨rfl, rfl, rfl, rfl, (by first|rfl|exact X.T (by omega)), trivial⟩, ⟨by dsimp only; omega, ?_, ho3.keep fun k hk => hf4 k (ho3.block k hk).2 (ho3.ne_block hown3 (by decide) hk), hbl3.trans hbl4⟩, by dsimp only; omega⟩
    dsimp only
    rw [← Ints_snoc (show i < (firstT n).length by omega) (y := ((i : Nat) : Int)) (firstT_get _)]
    exact hown4
  rename_i hgei
  have hie : i = n := by omega
  subst hie
  rw [List.take_of_length_le (by omega)] at hown3
  obtain ⟨at', ct, hvt, _⟩ := hown3.shape
  rw [Ints_length, hfl] at hvt
  subst hvt
  obtain ⟨wL, hwL⟩ : ∃ z, w3.heap.size = z := ⟨_, rfl⟩
  have hT3 : OwI 2 w.heap.size wL w3 (.slice at' i ct) (firstT i) := ⟨hown3, fun k hk => by have := (hown3.block k hk).2; omega, by omega⟩
  repeat' (first|refine X.O ?_|refine X.A ?_|refine X.B ?_|refine X.C ?_|refine X.D ?_|refine X.E ?_|refine X.F ?_|refine X.G ?_|refine X.H ?_|refine X.I ?_|fail)
  refine WP.loop (fun (s : Nat × List Int × Value × List (List Int)) => [(0, .int .i64 (i : Nat)), (3, .slice at' i ct), (4, s.2.2.1)])
    (fun s w4 => s.1 ≤ 20 ∧ treesN i = s.2.2.2 ++ treesGo (s.1 + 1) s.2.1 ∧ OwI 2 w.heap.size wL w4 (.slice at' i ct) s.2.1 ∧ (∃ vs, OwSSv 25 2 w.heap.size w4.heap.size w4 s.2.2.1 vs s.2.2.2 ∧ ∀ (j : Nat) u, vs[j]? = some u → ∀ k, u.ownBlock = some k → wL ≤ k) ∧ Below w.heap.size w w4 ∧ wL ≤ w4.heap.size)
    (fun s => s.1) (20, firstT i, v2, []) ⟨rfl, rfl, rfl, trivial⟩ ⟨Nat.le_refl _, rfl, hT3, ⟨[], OwSSv.none ho3 (by decide), fun j u hu => by simp at hu⟩, hbl3, by omega⟩ ?_
  rintro ⟨f, t, vo, out⟩ w4 ⟨hf20, hlist, hT4, ⟨vs, oO, hhigh⟩, hbl4, hwl4⟩
  dsimp only at hf20 hlist hT4 oO ⊢
  have hz4 := hbl4.size
  have htm : t ∈ treesN i := by rw [hlist]; unfold treesGo; simp
  have htl := (hok.1 t htm).2
  have htv := (hok.1 t htm).1
  have hvl : vs.length = out.length := oO.len
  have hol : out.length + 1 ≤ 20 := by
    have e := congrArg List.length hlist
    unfold treesGo at e
    simp at e
    omega
  repeat' (first|refine X.O ?_|refine X.A ?_|refine X.B ?_|refine X.C ?_|refine X.D ?_|refine X.E ?_|refine X.F ?_|refine X.G ?_|refine X.H ?_|refine X.I ?_|fail)
  refine WL.call (Clone_any hT4.rd (by omega)) ?_
  intro v5 w5 hN5
  have hz5 := hN5.2.size
  obtain ⟨a5, c5, hv5, _⟩ := hN5.1.shape
  have oO5 := oO.chg (Chg.of_below hN5.2) (by omega)
  refine o_append1 (u := v5) (fun _ => by rfl) (by rfl) oO5.own (by rw [hv5]; rfl) (by simp [hvl, maxLen]; omega) (by simp [hvl]; omega) (by omega) ?_
  intro p2 v6 w6 hown6 hbl6 hf6 hz6 _
  have o6 := oO5.snoc hN5.ow (Nat.le_refl _) (by omega) hown6 (by omega) hf6
  have hT5 := hT4.chg (Chg.of_below hN5.2) (by omega)
  have hT6 : OwI 2 w.heap.size wL w6 (.slice at' i ct) t := ⟨hT5.own.keep fun k hk => hf6 k (hT5.own.block k hk).2 (fun e => oO5.own.ne_block hT5.own oO5.ne e hk), hT5.lt, by omega⟩
  have hhigh6 : ∀ (j : Nat) u, (vs ++ [v5])[j]? = some u → ∀ k, u.ownBlock = some k → wL ≤ k := fun j u hu k hk => by
    rw [List.getElem?_append] at hu
    split at hu
    · exact hhigh j u hu k hk
    · have : u = v5 := by
        have hlt := (List.getElem?_eq_some_iff.1 hu).1
        simp only [List.length_singleton] at hlt
        have hj0 : j - vs.length = 0 := by omega
        rw [hj0] at hu
        simpa using hu.symm
      subst this
      have := (hN5.1.block k hk).1
      omega
  have hbl46 : Below w.heap.size w w6 := (hbl4.trans (Below.mono hN5.2 (by omega))).trans hbl6
  repeat' (first|refine X.O ?_|refine X.A ?_|refine X.B ?_|refine X.C ?_|refine X.D ?_|refine X.E ?_|refine X.F ?_|refine X.G ?_|refine X.H ?_|refine X.I ?_|fail)
  refine WP.loop (fun (m : Nat) => [(0, .int .i64 (i : Nat)), (3, .slice at' i ct), (4, v6), (6, .int .i64 ((m : Int) - 1))])
    (fun m w7 => m ≤ i ∧ lastBig t t.length = lastBig t m ∧ Still w6 w7) (fun m => m) i ⟨rfl, rfl, rfl, (by first|rfl|exact X.T (by omega)), trivial⟩ ⟨Nat.le_refl _, by rw [htl], Still.refl _⟩ ?_
  rintro m w7 ⟨hm1, hbig, hs7⟩
  have hz7 := hs7.size
  have hT7 := hT6.chg (Chg.of_still hs7) (by omega)
  repeat' (first|refine X.O ?_|refine X.A ?_|refine X.B ?_|refine X.C ?_|refine X.D ?_|refine X.E ?_|refine X.F ?_|refine X.G ?_|refine X.H ?_|refine X.I ?_|fail)
  by_cases hm0 : m = 0
  · refine WL.gsplitD (by rfl) (by rfl) (by rfl) (fun hb => absurd hb (by omega)) (fun _ => ?_)
    repeat' (first|refine X.O ?_|refine X.A ?_|refine X.B ?_|refine X.C ?_|refine X.D ?_|refine X.E ?_|refine X.F ?_|refine X.G ?_|refine X.H ?_|refine X.I ?_|fail)
    refine WP.condD (by rfl) (fun _ => ?_) (fun hb => absurd hb (by omega))
    have hno : nextT t = none := nextT_none (by rw [hbig, hm0]; rfl)
    repeat' (first|refine X.O ?_|refine X.A ?_|refine X.B ?_|refine X.C ?_|refine X.D ?_|refine X.E ?_|refine X.F ?_|refine X.G ?_|refine X.H ?_|refine X.I ?_|fail)
    refine ⟨_, ret1 rfl (by rfl), ?_⟩
    rw [hlist, treesGo_none f hno]
    exact ⟨⟨_, (o6.chg (Chg.of_still hs7) (by omega)).wide (Nat.le_refl _) (by omega) (Nat.le_refl _)⟩, hbl46.trans (hs7.below _)⟩
  refine WL.gsplitD (by rfl) (by rfl) (by rfl) (fun _ => ?_) (fun hb => absurd hb (by omega))
  repeat' (first|refine X.O ?_|refine X.A ?_|refine X.B ?_|refine X.C ?_|refine X.D ?_|refine X.E ?_|refine X.F ?_|refine X.G ?_|refine X.H ?_|refine X.I ?_|fail)
  have hmt : m - 1 < t.length := by omega
  refine WL.ixload (j := m - 1) hT7.rd (List.getElem?_eq_getElem hmt) ?_
  rintro p3 _ rfl
  repeat' (first|refine X.O ?_|refine X.A ?_|refine X.B ?_|refine X.C ?_|refine X.D ?_|refine X.E ?_|refine X.F ?_|refine X.G ?_|refine X.H ?_|refine X.I ?_|fail)
  first|refine X.J (fun _ => ?_) (fun _ => ?_)|refine X.L (fun _ => ?_) (fun _ => ?_)|refine X.M (fun _ => ?_) (fun _ => ?_)|refine X.R (fun _ => ?_) (fun _ => ?_)|fail
  · rename_i hle1
    have hstep : lastBig t m = lastBig t (m - 1) := by
      have := lastBig_step hmt (show ¬ 1 < t[m - 1] by omega)
      rw [show m - 1 + 1 = m from by omega] at this
      exact this
    repeat' (first|refine X.O ?_|refine X.A ?_|refine X.B ?_|refine X.C ?_|refine X.D ?_|refine X.E ?_|refine X.F ?_|refine X.G ?_|refine X.H ?_|refine X.I ?_|fail)
    exact ⟨m - 1, ⟨rfl, rfl, rfl, (by first|rfl|exact X.T (by omega)), trivial⟩, ⟨by omega, by rw [hbig, hstep], hs7⟩, by omega⟩
  rename_i hgt1
  obtain ⟨p, hp⟩ : ∃ p, m - 1 = p := ⟨_, rfl⟩
  have hpt : p < t.length := by omega
  have hhit : lastBig t t.length = some p := by
    have := lastBig_hit hmt (show 1 < t[m - 1] by omega)
    rw [show m - 1 + 1 = m from by omega] at this
    rw [hbig, this, hp]
  have hgp : 1 < t[p] := by have : 1 < t[m - 1] := by omega
                            simpa [hp] using this
  have hbp := htv.bd hpt
  have hp1 : 1 ≤ p := by
    apply Classical.byContradiction
    intro h0
    have e0 : p = 0 := by omega
    omega
  have hbl67 : Below w.heap.size w w7 := hbl46.trans (hs7.below _)
  repeat' (first|refine X.O ?_|refine X.A ?_|refine X.B ?_|refine X.C ?_|refine X.D ?_|refine X.E ?_|refine X.F ?_|refine X.G ?_|refine X.H ?_|refine X.I ?_|fail)
  refine WP.condD (by rfl) (fun hb => absurd hb (by omega)) (fun _ => ?_)
  repeat' (first|refine X.O ?_|refine X.A ?_|refine X.B ?_|refine X.C ?_|refine X.D ?_|refine X.E ?_|refine X.F ?_|refine X.G ?_|refine X.H ?_|refine X.I ?_|fail)
  refine WP.loop (fun (m2 : Nat) => [(0, .int .i64 (i : Nat)), (3, .slice at' i ct), (4, v6), (6, .int .i64 (p : Nat)), (7, .int .i64 ((m2 : Int) - 1))])
    (fun m2 w8 => 1 ≤ m2 ∧ m2 ≤ p ∧ t[p] - 1 ≤ t[m2 - 1]?.getD 0 ∧ lastEq t (t[p] - 1) p = lastEq t (t[p] - 1) m2 ∧ Still w7 w8) (fun m2 => m2) p ⟨rfl, rfl, rfl, (by first|rfl|exact X.T (by omega)), (by first|rfl|exact X.T (by omega)), trivial⟩ ⟨hp1, Nat.le_refl _, ?_, rfl, Still.refl _⟩ ?_
  · have h1 := htv.next hp1 hpt
    rw [List.getElem?_eq_getElem (by omega), Option.getD_some]
    omega
  rintro m2 w8 ⟨hm20, hm21, hge2, heq2, hs8⟩
  have hz8 := hs8.size
  have hmt2 : m2 - 1 < t.length := by omega
  rw [List.getElem?_eq_getElem hmt2, Option.getD_some] at hge2
  have hT8 := hT7.chg (Chg.of_still hs8) (by omega)
  have hbq := htv.bd hmt2
  repeat' (first|refine X.O ?_|refine X.A ?_|refine X.B ?_|refine X.C ?_|refine X.D ?_|refine X.E ?_|refine X.F ?_|refine X.G ?_|refine X.H ?_|refine X.I ?_|fail)
  refine WP.drawn (fun w' => w'.heap = w8.heap) [(0, true), (1, true), (2, true), (3, true), (4, true), (5, true), (6, true), (7, true), (8, true), (9, true)] (by kernel_rfl) mixed ?_
  intro w9 hs9
  have hw9 : w9.heap = w8.heap := hs9.heap
  have hz9 := hs9.size
  have hT9 := hT8.chg (Chg.of_still hs9) (by omega)
  repeat' (first|refine X.U rfl ?_|refine X.V rfl ?_|refine X.W rfl ?_|refine X.Y rfl ?_|refine X.Z rfl ?_|refine WS.nil ?_|fail)
  refine WS.ixload (j := m2 - 1) rfl rfl hT9.rd (List.getElem?_eq_getElem hmt2) (fun w' hw' => same_heap (hw'.trans hw9.symm)) hw9 ?_
  rintro p4 _ rfl
  repeat' (first|refine X.U rfl ?_|refine X.V rfl ?_|refine X.W rfl ?_|refine X.Y rfl ?_|refine X.Z rfl ?_|refine WS.nil ?_|fail)
  refine WS.ixload (j := p) rfl rfl hT9.rd (List.getElem?_eq_getElem hpt) (fun w' hw' => same_heap (hw'.trans hw9.symm)) hw9 ?_
  rintro p5 _ rfl
  repeat' (first|refine X.U rfl ?_|refine X.V rfl ?_|refine X.W rfl ?_|refine X.Y rfl ?_|refine X.Z rfl ?_|refine WS.nil ?_|fail)
  repeat' (first|refine X.O ?_|refine X.A ?_|refine X.B ?_|refine X.C ?_|refine X.D ?_|refine X.E ?_|refine X.F ?_|refine X.G ?_|refine X.H ?_|refine X.I ?_|fail)
  first|refine X.J (fun _ => ?_) (fun _ => ?_)|refine X.L (fun _ => ?_) (fun _ => ?_)|refine X.M (fun _ => ?_) (fun _ => ?_)|refine X.R (fun _ => ?_) (fun _ => ?_)|fail
  · rename_i hne
    have h2 : 2 ≤ m2 := by
      apply Classical.byContradiction
      intro h0
      have e0 : m2 - 1 = 0 := by omega
      have := hbq.2
      omega
    have hstep : lastEq t (t[p] - 1) m2 = lastEq t (t[p] - 1) (m2 - 1) := by
      have := lastEq_step hmt2 hne
      rw [show m2 - 1 + 1 = m2 from by omega] at this
      exact this
    have hnx := htv.next (i := m2 - 1) (by omega) hmt2
    repeat' (first|refine X.O ?_|refine X.A ?_|refine X.B ?_|refine X.C ?_|refine X.D ?_|refine X.E ?_|refine X.F ?_|refine X.G ?_|refine X.H ?_|refine X.I ?_|fail)
    refine ⟨m2 - 1, ⟨rfl, rfl, rfl, rfl, (by first|rfl|exact X.T (by omega)), trivial⟩, ⟨by omega, by omega, ?_, by rw [heq2, hstep], hs8.trans hs9⟩, by omega⟩
    rw [List.getElem?_eq_getElem (by omega), Option.getD_some]
    omega
  rename_i heq
  have heqq : t[m2 - 1] = t[p] - 1 := Decidable.not_not.1 heq
  obtain ⟨q, hq⟩ : ∃ q, m2 - 1 = q := ⟨_, rfl⟩
  have hlq : lastEq t (t[p] - 1) p = q := by
    have := lastEq_hit hmt2 heqq
    rw [show m2 - 1 + 1 = m2 from by omega] at this
    rw [heq2, this, hq]
  have hnext := nextT_some hhit hpt hlq
  have hs79 := hs8.trans hs9
  have hbl79 : Below w.heap.size w w9 := hbl67.trans (hs79.below _)
  have o9 := o6.chg (Chg.of_still (hs7.trans hs79)) (by omega)
  repeat' (first|refine X.O ?_|refine X.A ?_|refine X.B ?_|refine X.C ?_|refine X.D ?_|refine X.E ?_|refine X.F ?_|refine X.G ?_|refine X.H ?_|refine X.I ?_|fail)
  refine WP.loop (fun (s : Nat × List Int) => [(0, .int .i64 (i : Nat)), (3, .slice at' i ct), (4, v6), (6, .int .i64 (p : Nat)), (7, .int .i64 (q : Nat)), (8, .int .i64 (s.1 : Nat))])
    (fun s w10 => p ≤ s.1 ∧ s.1 ≤ t.length ∧ s.2.length = t.length ∧ shiftGo (p - q) (t.length - p) p t = shiftGo (p - q) (t.length - s.1) s.1 s.2 ∧ OwI 2 w.heap.size wL w10 (.slice at' i ct) s.2 ∧ Chg w.heap.size wL w9 w10 ∧ w10.heap.size = w9.heap.size ∧ (∀ k, (Value.slice at' i ct).ownBlock ≠ some k → w10.heap[k]? = w9.heap[k]?)) (fun s => t.length - s.1) (p, t) ⟨rfl, rfl, rfl, rfl, (by first|rfl|exact X.T (by omega)), rfl, trivial⟩ ⟨Nat.le_refl _, by dsimp only; omega, rfl, rfl, hT9, Chg.refl _ _ _, rfl, fun _ _ => rfl⟩ ?_
  rintro ⟨j, tc⟩ w10 ⟨hj0, hj1, htc, hsh, hT10, hc10, hz10, hf10⟩
  dsimp only at hj0 hj1 htc hsh hT10 ⊢
  repeat' (first|refine X.O ?_|refine X.A ?_|refine X.B ?_|refine X.C ?_|refine X.D ?_|refine X.E ?_|refine X.F ?_|refine X.G ?_|refine X.H ?_|refine X.I ?_|fail)
  first|refine X.J (fun _ => ?_) (fun _ => ?_)|refine X.L (fun _ => ?_) (fun _ => ?_)|refine X.M (fun _ => ?_) (fun _ => ?_)|refine X.R (fun _ => ?_) (fun _ => ?_)|fail
  · rename_i hltj
    have hjt : j < t.length := by omega
    have hsrc : j - (p - q) < tc.length := by omega
    rw [show t.length - j = (t.length - (j + 1)) + 1 from by omega, shiftGo, List.getElem?_eq_getElem hsrc, Option.getD_some] at hsh
    repeat' (first|refine X.O ?_|refine X.A ?_|refine X.B ?_|refine X.C ?_|refine X.D ?_|refine X.E ?_|refine X.F ?_|refine X.G ?_|refine X.H ?_|refine X.I ?_|fail)
    refine WL.ixload (j := j - (p - q)) hT10.rd (List.getElem?_eq_getElem hsrc) ?_
    rintro p6 _ rfl
    refine WL.ixstore (j := j) hT10.own (by rw [Ints_length]; omega) ?_
    intro p7 w11 hown11 hbl11 hz11 hf11
    rw [Ints_set] at hown11
    repeat' (first|refine X.O ?_|refine X.A ?_|refine X.B ?_|refine X.C ?_|refine X.D ?_|refine X.E ?_|refine X.F ?_|refine X.G ?_|refine X.H ?_|refine X.I ?_|fail)
    exact ⟨(j + 1, tc.set j tc[j - (p - q)]), ⟨rfl, rfl, rfl, rfl, rfl, (by first|rfl|exact X.T (by omega)), trivial⟩, ⟨by dsimp only; omega, by dsimp only; omega, by rw [List.length_set]; exact htc, hsh, ⟨hown11, hT10.lt, by have := hT10.hi_le; omega⟩, hc10.trans (Chg.ofStore hT10 hbl11 hz11 hf11), by omega, fun k hk => (hf11 k hk).trans (hf10 k hk)⟩, by dsimp only; omega⟩
  rename_i hgej
  have hje : j = t.length := by omega
  subst hje
  rw [Nat.sub_self, shiftGo] at hsh
  rw [hsh] at hnext
  have hf1 : 1 ≤ f := by
    apply Classical.byContradiction
    intro h0
    have e0 : f = 0 := by omega
    subst e0
    have e1 : treesN i = out ++ [t] := by rw [hlist, treesGo_some 0 hnext]; rfl
    have := hok.2 t (by rw [e1]; simp)
    rw [hnext] at this
    cases this
  have hl2 : treesN i = (out ++ [t]) ++ treesGo (f - 1 + 1) tc := by
    rw [hlist, treesGo_some f hnext, show f - 1 + 1 = f from by omega, List.append_assoc]; rfl
  have o10 : OwSSv 25 2 w.heap.size w10.heap.size w10 v6 (vs ++ [v5]) (out ++ [t]) := by
    have := o9.keepBut hT9.own (fun j u hu k hk e => by have := hhigh6 j u hu k hk; have := hT9.lt k e; omega) hz10 hf10
    exact this.wide (Nat.le_refl _) (by omega) (Nat.le_refl _)
  repeat' (first|refine X.O ?_|refine X.A ?_|refine X.B ?_|refine X.C ?_|refine X.D ?_|refine X.E ?_|refine X.F ?_|refine X.G ?_|refine X.H ?_|refine X.I ?_|fail)
  exact ⟨(f - 1, tc, v6, out ++ [t]), ⟨rfl, rfl, rfl, trivial⟩, ⟨by dsimp only; omega, hl2, hT10, ⟨_, o10, hhigh6⟩, hbl79.trans (hc10.below hbl79.size (.inl (Nat.le_refl _))), by omega⟩, by dsimp only; omega⟩
end Go.Proofs
/- The program's list of trees, densities, the character and the order of a tableau. -/
namespace Go.Fw
open Go Go.RowKit
/-- Two slices of slices, one behind the other. -/
theorem OwSSv.appendSS {e e2 lo hi s : Nat} {w w' : World} {v v2 v' : Value} {vs us : List Value} {xss yss : List (List Int)} (h : OwSSv e e2 lo hi w v vs xss) (h2 : OwSSv e e2 s w.heap.size w v2 us yss) (hs : hi ≤ s) (hlo : lo ≤ s) (ho : Own lo e w' v' (vs ++ us)) (hz : w.heap.size ≤ w'.heap.size) (hb : ∀ k, k < w.heap.size → v.ownBlock ≠ some k → w'.heap[k]? = w.heap[k]?) :
    OwSSv e e2 lo w'.heap.size w' v' (vs ++ us) (xss ++ yss) := by
  have keep : ∀ (u' : Value) (xs' : List Int) (lo' hi'' : Nat), OwI e2 lo' hi'' w u' xs' → OwI e2 lo' hi'' w' u' xs' := fun u' xs' lo' hi'' hr =>
    ⟨hr.own.keep fun k hk => hb k (hr.own.block k hk).2 fun e' => h.own.ne_block hr.own h.ne e' hk, hr.lt, Nat.le_trans hr.hi_le hz⟩
  have hlen := h.len
  have hlen2 := h2.len
  have hhi := h.hi_le
  refine ⟨ho, fun k hk => (ho.block k hk).2, Nat.le_refl _, by simp [hlen, hlen2], fun j u' xs' hu' hx' => ?_, fun j j' u1 u2 hne h1 h2' k hk => ?_, h.ne⟩
  · rw [List.getElem?_append] at hu' hx'
    by_cases hj : j < vs.length
    · rw [if_pos hj] at hu'
      rw [if_pos (by omega)] at hx'
      exact (keep _ _ _ _ (h.rows j u' xs' hu' hx')).wide (Nat.le_refl _) (by omega) (Nat.le_refl _)
    · rw [if_neg hj] at hu'
      rw [if_neg (by omega)] at hx'
      rw [← hlen] at hx'
      exact (keep _ _ _ _ (h2.rows (j - vs.length) u' xs' hu' hx')).wide hlo hz (Nat.le_refl _)
  · rw [List.getElem?_append] at h1 h2'
    have lowB : ∀ (i : Nat) u, vs[i]? = some u → ∀ k, u.ownBlock = some k → k < hi := fun i u hu k hk => by
      obtain ⟨xs, hx⟩ : ∃ xs, xss[i]? = some xs := ⟨_, List.getElem?_eq_getElem (by rw [← hlen]; exact (List.getElem?_eq_some_iff.1 hu).1)⟩
      exact (h.rows i u xs hu hx).lt k hk
    have highB : ∀ (i : Nat) u, us[i]? = some u → ∀ k, u.ownBlock = some k → s ≤ k := fun i u hu k hk => by
      obtain ⟨xs, hx⟩ : ∃ xs, yss[i]? = some xs := ⟨_, List.getElem?_eq_getElem (by rw [← hlen2]; exact (List.getElem?_eq_some_iff.1 hu).1)⟩
      exact ((h2.rows i u xs hu hx).own.block k hk).1
    by_cases hj : j < vs.length <;> by_cases hj' : j' < vs.length
    · rw [if_pos hj] at h1
      rw [if_pos hj'] at h2'
      exact h.apart j j' u1 u2 hne h1 h2' k hk
    · rw [if_pos hj] at h1
      rw [if_neg hj'] at h2'
      intro e'
      have := lowB _ _ h1 k hk
      have := highB _ _ h2' k e'
      omega
    · rw [if_neg hj] at h1
      rw [if_pos hj'] at h2'
      intro e'
      have := lowB _ _ h2' k e'
      have := highB _ _ h1 k hk
      omega
    · rw [if_neg hj] at h1
      rw [if_neg hj'] at h2'
      exact h2.apart _ _ u1 u2 (by omega) h1 h2' k hk
section
variable {P : Program} {N : Nat} {Q : Exit → Fr → World → Prop} {l : Fr} {w : World} {ops : Array Oper} {K : Fr → World → Prop}
variable {d : Nat} {ty : TypeId} {pos : String} {af : Array Edge} {g : Option (Nat × Bool)}
/-- A product, whatever it is: it wraps. -/
theorem o_mulW {x y : Operand} {t t' : TypeId} {a b : Int} (hx : ev l x = some (.int .i64 a)) (hy : ev l y = some (.int .i64 b)) (k : K ((d, .int .i64 (IntKind.i64.wrap (a * b))) :: l) w)
    (hg : wantedL ops l g = some true := by rfl) (hd : Nat.blt d N = true := by rfl) : OpW P N ops Q ⟨some d, .binOp .mul t x y t', ty, pos, af, g⟩ l w K :=
  OpW.val (fun fr ha => by simp [execOp, ha.ev hx, ha.ev hy, eqGuard, binOp, Op.intArith]) k hg hd
end
theorem OwSSv.one {e e2 lo hi : Nat} {w : World} {v : Value} {vs : List Value} {xss : List (List Int)} (h : OwSSv e e2 lo hi w v vs xss) : ∀ u ∈ vs, u.oneCell' = true := fun u hu => by
  obtain ⟨i, hi', rfl⟩ := List.getElem_of_mem hu
  obtain ⟨_, _, hsh, _⟩ := (h.rows i _ _ (List.getElem?_eq_getElem hi') (List.getElem?_eq_getElem (by rw [← h.len]; exact hi'))).own.shape
  rw [hsh]; rfl
end Go.Fw
namespace Go.Proofs
open Go Go.Fw Go.RowKit Go.Rk
theorem treesTo_le : ∀ n, n ≤ 6 → (treesTo n).length ≤ 20 * n
  | 0, _ => by simp [treesTo]
  | n + 1, h => by
    have h1 := treesTo_le n (by omega)
    have h2 := treesN_le (n := n + 1) (by omega) h
    rw [treesTo, List.length_append]
    omega
theorem treesTo_any (n : Nat) (hn1 : n ≤ 6) (w : World) : Does Tryz.prog 76 [.int .i64 (n : Nat)] w fun r w' => NewSS 25 2 w r w' (treesTo n) := by
  refine Does.enter Tryz.func76 Tryz.ntmps76 rfl (by rfl) ?_
  repeat' (first|refine X.O ?_|refine X.A ?_|refine X.B ?_|refine X.C ?_|refine X.D ?_|refine X.E ?_|refine X.F ?_|refine X.G ?_|refine X.H ?_|refine X.I ?_|fail)
  refine WL.step (o_lit (us := []) (by rfl) (by rfl) rfl (by decide) one0 ?_)
  intro v1 w1 hown1 hbl1 hz1 _
  repeat' (first|refine X.O ?_|refine X.A ?_|refine X.B ?_|refine X.C ?_|refine X.D ?_|refine X.E ?_|refine X.F ?_|refine X.G ?_|refine X.H ?_|refine X.I ?_|fail)
  refine WP.loop (fun (s : Nat × Value) => [(0, .int .i64 (n : Nat)), (3, s.2), (4, .int .i64 ((s.1 : Int) + 1))])
    (fun s w2 => s.1 ≤ n ∧ (∃ vs, OwSSv 25 2 w.heap.size w2.heap.size w2 s.2 vs (treesTo s.1)) ∧ Below w.heap.size w w2)
    (fun s => n - s.1) (0, v1) ⟨rfl, rfl, rfl, trivial⟩ ⟨by dsimp only; omega, ⟨[], OwSSv.none hown1 (by decide)⟩, hbl1⟩ ?_
  rintro ⟨k, vo⟩ w2 ⟨hk, ⟨vs, oA⟩, hbl2⟩
  dsimp only at hk oA ⊢
  have hz2 := hbl2.size
  have hvl : vs.length = (treesTo k).length := oA.len
  have hle := treesTo_le k (by omega)
  repeat' (first|refine X.O ?_|refine X.A ?_|refine X.B ?_|refine X.C ?_|refine X.D ?_|refine X.E ?_|refine X.F ?_|refine X.G ?_|refine X.H ?_|refine X.I ?_|fail)
  first|refine X.J (fun _ => ?_) (fun _ => ?_)|refine X.L (fun _ => ?_) (fun _ => ?_)|refine X.M (fun _ => ?_) (fun _ => ?_)|refine X.R (fun _ => ?_) (fun _ => ?_)|fail
  · rename_i hlt
    have hle2 := treesN_le (n := k + 1) (by omega) (by omega)
    repeat' (first|refine X.O ?_|refine X.A ?_|refine X.B ?_|refine X.C ?_|refine X.D ?_|refine X.E ?_|refine X.F ?_|refine X.G ?_|refine X.H ?_|refine X.I ?_|fail)
    refine WL.call (treesOf_any (k + 1) (by omega) (by omega) _) ?_ (hx := by rfl)
    rintro v3 w3 ⟨⟨us, o3⟩, hbl3⟩
    have hz3 := hbl3.size
    have hul : us.length = (treesN (k + 1)).length := o3.len
    have oA3 := oA.chg (Chg.of_below hbl3) (by omega)
    refine WL.step (o_append (us := vs) (news := us) (by rfl) (by rfl) oA3.own o3.own.src o3.one (by simp [maxLen]; omega) (by omega) (by omega) ?_)
    intro v4 w4 hown4 hg4 hbl4 _
    have hz4 := hg4.size
    have o4 := oA3.appendSS o3 (by omega) (by omega) hown4 hz4 (fun k hk hne => hg4.block k hk (fun e => hne e.symm))
    repeat' (first|refine X.O ?_|refine X.A ?_|refine X.B ?_|refine X.C ?_|refine X.D ?_|refine X.E ?_|refine X.F ?_|refine X.G ?_|refine X.H ?_|refine X.I ?_|fail)
    exact ⟨(k + 1, v4), ⟨rfl, rfl, (by first|rfl|exact X.T (by omega)), trivial⟩, ⟨by dsimp only; omega, ⟨_, o4⟩, (hbl2.trans (Below.mono hbl3 (by omega))).trans hbl4⟩, by dsimp only; omega⟩
  · rename_i hge
    have hke : k = n := by omega
    subst hke
    repeat' (first|refine X.O ?_|refine X.A ?_|refine X.B ?_|refine X.C ?_|refine X.D ?_|refine X.E ?_|refine X.F ?_|refine X.G ?_|refine X.H ?_|refine X.I ?_|fail)
    refine ⟨_, ret1 rfl (by rfl), ?_⟩
    exact ⟨⟨vs, oA⟩, hbl2⟩
theorem density_any (f : Nat) (hf : f ≤ 8) : ∀ {lo hi : Nat} {w : World} {v : Value} {t : List Int}, IS lo hi w v t → Lv t → t.length ≤ f →
    Does Tryz.prog 104 [v] w fun r w' => r = .int .i64 (densL f t) ∧ Below w.heap.size w w' := by
  induction f with
  | zero => intro _ _ _ _ t _ ht hn; exact absurd ht.pos (by omega)
  | succ f ih =>
  intro lo hi w v t h ht hn
  have hz := h.hi_le
  obtain ⟨a, c, hv⟩ := h.shape
  subst hv
  refine Does.enter Tryz.func104 Tryz.ntmps104 rfl (by rfl) ?_
  repeat' (first|refine X.O ?_|refine X.A ?_|refine X.B ?_|refine X.C ?_|refine X.D ?_|refine X.E ?_|refine X.F ?_|refine X.G ?_|refine X.H ?_|refine X.I ?_|fail)
  refine WL.call (length_any h) ?_
  rintro _ w1 ⟨rfl, hs1⟩
  have hz1 := hs1.size
  repeat' (first|refine X.O ?_|refine X.A ?_|refine X.B ?_|refine X.C ?_|refine X.D ?_|refine X.E ?_|refine X.F ?_|refine X.G ?_|refine X.H ?_|refine X.I ?_|fail)
  refine WL.call (branchesOf_any (h.still RI.stable hs1) ht (by omega)) ?_
  rintro v2 w2 ⟨hS, hbl2⟩
  have hz2 := hbl2.size
  have hbr := branches_ok ht
  obtain ⟨bs, hbs⟩ : ∃ bs, branchesL t = bs := ⟨_, rfl⟩
  rw [hbs] at hS hbr
  have hR := hS.rd
  obtain ⟨ab, cb, hvb⟩ := hR.shape
  subst hvb
  have hbl02 : Below w.heap.size w w2 := (hs1.below _).trans (Below.mono hbl2 (by omega))
  have hd : densL (f + 1) t = densGo (densL f) t.length (bs.drop 0) := by rw [densL, hbs]; rfl
  repeat' (first|refine X.O ?_|refine X.A ?_|refine X.B ?_|refine X.C ?_|refine X.D ?_|refine X.E ?_|refine X.F ?_|refine X.G ?_|refine X.H ?_|refine X.I ?_|fail)
  refine WP.loop (fun (s : Nat × Int) => [(3, .int .i64 s.2), (9, .slice ab bs.length cb), (10, .int .i64 (bs.length : Nat)), (11, .int .i64 (s.1 : Nat))])
    (fun s w3 => s.1 ≤ bs.length ∧ densL (f + 1) t = densGo (densL f) s.2 (bs.drop s.1) ∧ Below w2.heap.size w2 w3)
    (fun s => bs.length - s.1) (0, (t.length : Int)) ⟨rfl, rfl, rfl, rfl, trivial⟩ ⟨by dsimp only; omega, hd, Below.refl _ _⟩ ?_
  rintro ⟨i, out⟩ w3 ⟨hi1, hd3, hbl3⟩
  dsimp only at hi1 hd3 ⊢
  have hz3 := hbl3.size
  repeat' (first|refine X.O ?_|refine X.A ?_|refine X.B ?_|refine X.C ?_|refine X.D ?_|refine X.E ?_|refine X.F ?_|refine X.G ?_|refine X.H ?_|refine X.I ?_|fail)
  first|refine X.J (fun _ => ?_) (fun _ => ?_)|refine X.L (fun _ => ?_) (fun _ => ?_)|refine X.M (fun _ => ?_) (fun _ => ?_)|refine X.R (fun _ => ?_) (fun _ => ?_)|fail
  · rename_i hlt
    have hli : i < bs.length := by omega
    have hbi := hbr.2 _ (List.getElem_mem hli)
    rw [densGo_drop hli] at hd3
    repeat' (first|refine X.O ?_|refine X.A ?_|refine X.B ?_|refine X.C ?_|refine X.D ?_|refine X.E ?_|refine X.F ?_|refine X.G ?_|refine X.H ?_|refine X.I ?_|fail)
    refine WL.ixload (hR.below IS.stable hbl3 (Nat.le_refl _)) (List.getElem?_eq_getElem hli) ?_
    intro p1 u hu
    repeat' (first|refine X.O ?_|refine X.A ?_|refine X.B ?_|refine X.C ?_|refine X.D ?_|refine X.E ?_|refine X.F ?_|refine X.G ?_|refine X.H ?_|refine X.I ?_|fail)
    refine WL.call (ih (by omega) hu hbi.1 (by omega)) ?_
    rintro _ w4 ⟨rfl, hbl4⟩
    refine WL.step (o_mulW (by rfl) (by rfl) ?_)
    repeat' (first|refine X.O ?_|refine X.A ?_|refine X.B ?_|refine X.C ?_|refine X.D ?_|refine X.E ?_|refine X.F ?_|refine X.G ?_|refine X.H ?_|refine X.I ?_|fail)
    exact ⟨(i + 1, IntKind.i64.wrap (out * densL f bs[i])), ⟨rfl, rfl, rfl, (by first|rfl|exact X.T (by omega)), trivial⟩, ⟨by dsimp only; omega, hd3, hbl3.trans (Below.mono hbl4 hz3)⟩, by dsimp only; omega⟩
  · rename_i hge
    rw [List.drop_eq_nil_of_le (by omega), densGo] at hd3
    repeat' (first|refine X.O ?_|refine X.A ?_|refine X.B ?_|refine X.C ?_|refine X.D ?_|refine X.E ?_|refine X.F ?_|refine X.G ?_|refine X.H ?_|refine X.I ?_|fail)
    refine ⟨_, ret1 rfl (by rfl), ?_⟩
    exact ⟨by rw [hd3], hbl02.trans (Below.mono hbl3 hbl02.size)⟩
theorem lacking_any {lo hi lo' hi' : Nat} {w : World} {v v' : Value} {x : TabD} {t : List Int} (h : IT lo hi w v x) (h' : IS lo' hi' w v' t) (hx : Tab x) (ht : Lv t) (hn : t.length ≤ 8) :
    Does Tryz.prog 77 [v, v'] w fun r w' => r = .int .i64 (lackL x t) ∧ Chg 0 0 w w' := by
  have hz := h.hi_le
  have hz' := h'.hi_le
  obtain ⟨va, vb, rfl, hA, hB⟩ := h
  have hT : IT lo hi w (.agg #[va, vb]) x := ⟨_, _, rfl, hA, hB⟩
  refine Does.enter Tryz.func77 Tryz.ntmps77 rfl (by rfl) ?_
  repeat' (first|refine X.O ?_|refine X.A ?_|refine X.B ?_|refine X.C ?_|refine X.D ?_|refine X.E ?_|refine X.F ?_|refine X.G ?_|refine X.H ?_|refine X.I ?_|fail)
  refine WL.step (o_box (by rfl) ?_)
  intro w1 hb1 hbl1 hz1
  have hc1 := Chg.of_below hbl1
  repeat' (first|refine X.O ?_|refine X.A ?_|refine X.B ?_|refine X.C ?_|refine X.D ?_|refine X.E ?_|refine X.F ?_|refine X.G ?_|refine X.H ?_|refine X.I ?_|fail)
  refine WL.step (o_loadS (by rfl) hb1 (by rfl) ?_)
  repeat' (first|refine X.O ?_|refine X.A ?_|refine X.B ?_|refine X.C ?_|refine X.D ?_|refine X.E ?_|refine X.F ?_|refine X.G ?_|refine X.H ?_|refine X.I ?_|fail)
  refine WL.call (weight_any (hT.below hbl1 hz) (h'.below RI.stable hbl1 hz') hx ht hn) ?_
  rintro _ w2 ⟨rfl, hc2⟩
  have hc12 := hc1.trans hc2
  repeat' (first|refine X.O ?_|refine X.A ?_|refine X.B ?_|refine X.C ?_|refine X.D ?_|refine X.E ?_|refine X.F ?_|refine X.G ?_|refine X.H ?_|refine X.I ?_|fail)
  refine WL.call (density_any 8 (Nat.le_refl _) (RI.chg h' hc12 (by omega)) ht hn) ?_
  rintro _ w3 ⟨rfl, hbl3⟩
  have hc13 := hc12.trans (Chg.of_below hbl3)
  refine WL.call (num_any _ _) ?_
  rintro _ _ ⟨rfl, rfl⟩
  have hnb := nm_bd (densL 8 t)
  refine WL.call (inv_any (nm (densL 8 t)) hnb.1 hnb.2 _) ?_
  rintro _ w4 ⟨rfl, hs4⟩
  have hwb : 0 ≤ weightL x t ∧ weightL x t ≤ 10006 := nm_bd _
  have hpb := powN_bd (nm (densL 8 t)) 10005
  repeat' (first|refine X.O ?_|refine X.A ?_|refine X.B ?_|refine X.C ?_|refine X.D ?_|refine X.E ?_|refine X.F ?_|refine X.G ?_|refine X.H ?_|refine X.I ?_|fail)
  refine WL.call (num_any _ _) ?_
  rintro _ _ ⟨rfl, rfl⟩
  repeat' (first|refine X.O ?_|refine X.A ?_|refine X.B ?_|refine X.C ?_|refine X.D ?_|refine X.E ?_|refine X.F ?_|refine X.G ?_|refine X.H ?_|refine X.I ?_|fail)
  refine ⟨_, ret1 rfl (by rfl), ?_⟩
  exact ⟨rfl, hc13.trans (Chg.of_still hs4)⟩
theorem order_any {lo hi : Nat} {w : World} {v : Value} {x : TabD} (h : IT lo hi w v x) (hx : Tab x) :
    Does Tryz.prog 50 [v] w fun r w' => r = .int .i64 (orderL x) ∧ Chg 0 0 w w' := by
  have hz := h.hi_le
  obtain ⟨va, vb, rfl, hA, hB⟩ := h
  have hT : IT lo hi w (.agg #[va, vb]) x := ⟨_, _, rfl, hA, hB⟩
  refine Does.enter Tryz.func50 Tryz.ntmps50 rfl (by rfl) ?_
  repeat' (first|refine X.O ?_|refine X.A ?_|refine X.B ?_|refine X.C ?_|refine X.D ?_|refine X.E ?_|refine X.F ?_|refine X.G ?_|refine X.H ?_|refine X.I ?_|fail)
  refine WL.step (o_box (by rfl) ?_)
  intro w1 hb1 hbl1 hz1
  repeat' (first|refine X.O ?_|refine X.A ?_|refine X.B ?_|refine X.C ?_|refine X.D ?_|refine X.E ?_|refine X.F ?_|refine X.G ?_|refine X.H ?_|refine X.I ?_|fail)
  refine WL.call (treesTo_any 6 (Nat.le_refl _) _) ?_
  rintro v3 w3 ⟨hS, hbl3⟩
  have hz3 := hbl3.size
  have hok := treesTo_ok (n := 6) (Nat.le_refl _)
  obtain ⟨ts, hts⟩ : ∃ ts, treesTo 6 = ts := ⟨_, rfl⟩
  have htl : ts.length = 37 := by rw [← hts]; exact treesTo_len
  have hol : orderL x = orderGo x (ts.drop 0) := by unfold orderL; rw [hts]; rfl
  rw [hts] at hS hok
  have hR := hS.rd
  obtain ⟨ab, cb, hvb⟩ := hR.shape
  subst hvb
  have hbl13 : Below w.heap.size w w3 := hbl1.trans (Below.mono hbl3 (by omega))
  have hb3 := hb1.below hbl3 (by omega)
  have hT3 := hT.below hbl13 hz
  have hc3 := Chg.of_below hbl13
  repeat' (first|refine X.O ?_|refine X.A ?_|refine X.B ?_|refine X.C ?_|refine X.D ?_|refine X.E ?_|refine X.F ?_|refine X.G ?_|refine X.H ?_|refine X.I ?_|fail)
  refine WP.loop (fun (i : Nat) => [(1, .pointer (some ⟨w.heap.size, 0, none⟩)), (5, .slice ab ts.length cb), (6, .int .i64 (ts.length : Nat)), (7, .int .i64 (i : Nat))])
    (fun i w4 => i ≤ ts.length ∧ orderL x = orderGo x (ts.drop i) ∧ Chg 0 0 w3 w4)
    (fun i => ts.length - i) 0 ⟨rfl, rfl, rfl, rfl, trivial⟩ ⟨by omega, hol, Chg.refl _ _ _⟩ ?_
  rintro i w4 ⟨hi1, ho4, hc4⟩
  have hz4 := hc4.size
  repeat' (first|refine X.O ?_|refine X.A ?_|refine X.B ?_|refine X.C ?_|refine X.D ?_|refine X.E ?_|refine X.F ?_|refine X.G ?_|refine X.H ?_|refine X.I ?_|fail)
  first|refine X.J (fun _ => ?_) (fun _ => ?_)|refine X.L (fun _ => ?_) (fun _ => ?_)|refine X.M (fun _ => ?_) (fun _ => ?_)|refine X.R (fun _ => ?_) (fun _ => ?_)|fail
  · rename_i hlt
    have hli : i < ts.length := by omega
    have hti := hok _ (List.getElem_mem hli)
    rw [orderGo_drop hli] at ho4
    repeat' (first|refine X.O ?_|refine X.A ?_|refine X.B ?_|refine X.C ?_|refine X.D ?_|refine X.E ?_|refine X.F ?_|refine X.G ?_|refine X.H ?_|refine X.I ?_|fail)
    refine WL.ixload (ISS.chg hR hc4 (by omega)) (List.getElem?_eq_getElem hli) ?_
    intro p1 u hu
    repeat' (first|refine X.O ?_|refine X.A ?_|refine X.B ?_|refine X.C ?_|refine X.D ?_|refine X.E ?_|refine X.F ?_|refine X.G ?_|refine X.H ?_|refine X.I ?_|fail)
    refine WL.step (o_loadS (by rfl) (hb3.chg0 hc4) (by rfl) ?_)
    repeat' (first|refine X.O ?_|refine X.A ?_|refine X.B ?_|refine X.C ?_|refine X.D ?_|refine X.E ?_|refine X.F ?_|refine X.G ?_|refine X.H ?_|refine X.I ?_|fail)
    refine WL.call (lacking_any (hT3.chg hc4 (by omega)) hu hx hti.1 (by omega)) ?_
    rintro _ w5 ⟨rfl, hc5⟩
    repeat' (first|refine X.O ?_|refine X.A ?_|refine X.B ?_|refine X.C ?_|refine X.D ?_|refine X.E ?_|refine X.F ?_|refine X.G ?_|refine X.H ?_|refine X.I ?_|fail)
    first|refine X.J (fun _ => ?_) (fun _ => ?_)|refine X.L (fun _ => ?_) (fun _ => ?_)|refine X.M (fun _ => ?_) (fun _ => ?_)|refine X.R (fun _ => ?_) (fun _ => ?_)|fail
    · rename_i hne
      rw [if_pos hne] at ho4
      have hu5 := RI.chg hu hc5 (by omega)
      repeat' (first|refine X.O ?_|refine X.A ?_|refine X.B ?_|refine X.C ?_|refine X.D ?_|refine X.E ?_|refine X.F ?_|refine X.G ?_|refine X.H ?_|refine X.I ?_|fail)
      refine WL.call (length_any hu5) ?_
      rintro _ w6 ⟨rfl, hs6⟩
      repeat' (first|refine X.O ?_|refine X.A ?_|refine X.B ?_|refine X.C ?_|refine X.D ?_|refine X.E ?_|refine X.F ?_|refine X.G ?_|refine X.H ?_|refine X.I ?_|fail)
      refine ⟨_, ret1 rfl (by rfl), ?_⟩
      exact ⟨by rw [ho4], (hc3.trans (hc4.trans hc5)).trans (Chg.of_still hs6)⟩
    · rename_i heq
      rw [if_neg heq] at ho4
      repeat' (first|refine X.O ?_|refine X.A ?_|refine X.B ?_|refine X.C ?_|refine X.D ?_|refine X.E ?_|refine X.F ?_|refine X.G ?_|refine X.H ?_|refine X.I ?_|fail)
      exact ⟨i + 1, ⟨rfl, rfl, rfl, (by first|rfl|exact X.T (by omega)), trivial⟩, ⟨by omega, ho4, hc4.trans hc5⟩, by omega⟩
  · rename_i hge
    rw [List.drop_eq_nil_of_le (by omega), orderGo] at ho4
    repeat' (first|refine X.O ?_|refine X.A ?_|refine X.B ?_|refine X.C ?_|refine X.D ?_|refine X.E ?_|refine X.F ?_|refine X.G ?_|refine X.H ?_|refine X.I ?_|fail)
    refine ⟨_, ret1 rfl (by rfl), ?_⟩
    exact ⟨by rw [ho4], hc3.trans hc4⟩
end Go.Proofs
/- Canonical trees, the reference's way. -/
namespace Go.Fw
open Go Go.RowKit
theorem SL.src {lo hi : Nat} {w : World} {v : Value} {us : List Value} (h : SL (fun _ _ _ u x => u = x) lo hi w v us) : Src w v us := by
  obtain ⟨_, a, c, rfl, _, _, h⟩ := h
  refine ⟨a, c, rfl, fun i u hu => ?_⟩
  obtain ⟨b, o, u', ha, _, _, hc, hr⟩ := h i u hu
  exact ⟨b, o, ha, by rw [hc, hr]⟩
/-- A slice of rows: the outer one is owned, each row is owned; the rows need not lie apart. -/
structure OwR (e e2 : TypeId) (lo : Nat) (w : World) (v : Value) (vs : List Value) (xss : List (List Int)) : Prop where
  own : Own lo e w v vs
  len : vs.length = xss.length
  rows : ∀ (i : Nat) u xs, vs[i]? = some u → xss[i]? = some xs → OwI e2 lo w.heap.size w u xs
  ne : e ≠ e2
theorem OwR.ofSSv {e e2 lo : Nat} {w : World} {v : Value} {vs : List Value} {xss : List (List Int)} (h : OwSSv e e2 lo w.heap.size w v vs xss) : OwR e e2 lo w v vs xss := ⟨h.own, h.len, h.rows, h.ne⟩
theorem OwR.below {e e2 lo : Nat} {w w' : World} {v : Value} {vs : List Value} {xss : List (List Int)} (h : OwR e e2 lo w v vs xss) (hb : Below w.heap.size w w') : OwR e e2 lo w' v vs xss :=
  ⟨h.own.below hb (Nat.le_refl _), h.len, fun i u xs hu hx => (((h.rows i u xs hu hx).chg (Chg.of_below hb) (by omega)).wide (Nat.le_refl _) hb.size (Nat.le_refl _)), h.ne⟩
theorem OwR.rd {e e2 lo : Nat} {w : World} {v : Value} {vs : List Value} {xss : List (List Int)} (h : OwR e e2 lo w v vs xss) : ISS lo w.heap.size w v xss :=
  h.own.toSL h.len (Nat.le_refl _) (fun k hk => (h.own.block k hk).2) (Nat.le_refl _) (fun i u x hu hx => (h.rows i u x hu hx).rd)
theorem OwR.eq {e e2 lo : Nat} {w : World} {v : Value} {vs : List Value} {xss : List (List Int)} (h : OwR e e2 lo w v vs xss) : SL (fun _ _ _ u x => u = x) lo w.heap.size w v vs :=
  h.own.toSL rfl (Nat.le_refl _) (fun k hk => (h.own.block k hk).2) (Nat.le_refl _) (fun i u x hu hx => by rw [hu] at hx; simpa using hx)
theorem ins_get {α β : Type} {vs : List α} {ss : List β} {vp : α} {part : β} {m i : Nat} {u : α} {x : β} (hl : vs.length = ss.length) (h1 : (vs.take m ++ ([vp] ++ vs.drop m))[i]? = some u) (h2 : (ss.take m ++ ([part] ++ ss.drop m))[i]? = some x) :
    (∃ j : Nat, vs[j]? = some u ∧ ss[j]? = some x) ∨ (u = vp ∧ x = part) := by
  rw [List.getElem?_append] at h1 h2
  have hlt : (vs.take m).length = (ss.take m).length := by rw [List.length_take, List.length_take, hl]
  by_cases hi : i < (vs.take m).length
  · rw [if_pos hi] at h1
    rw [if_pos (by omega)] at h2
    rw [List.getElem?_take] at h1 h2
    split at h1
    · rename_i h3; rw [if_pos h3] at h2; exact .inl ⟨i, h1, h2⟩
    · cases h1
  · rw [if_neg hi] at h1
    rw [if_neg (by omega), ← hlt] at h2
    rw [List.getElem?_append] at h1 h2
    by_cases h0 : i - (vs.take m).length < 1
    · rw [if_pos (by simpa using h0)] at h1 h2
      have e0 : i - (vs.take m).length = 0 := by omega
      rw [e0] at h1 h2
      simp at h1 h2
      exact .inr ⟨h1.symm, h2.symm⟩
    · rw [if_neg (by simpa using h0)] at h1 h2
      rw [List.getElem?_drop] at h1 h2
      exact .inl ⟨_, h1, h2⟩
theorem OwR.insert {e e2 lo lo' m : Nat} {w w' : World} {v v' vp : Value} {vs : List Value} {xss : List (List Int)} {part : List Int} (h : OwR e e2 lo w v vs xss) (hp : OwI e2 lo w.heap.size w vp part) (hb : Below w.heap.size w w') (hlo : lo ≤ lo') (own' : Own lo' e w' v' (vs.take m ++ ([vp] ++ vs.drop m))) :
    OwR e e2 lo w' v' (vs.take m ++ ([vp] ++ vs.drop m)) (xss.take m ++ ([part] ++ xss.drop m)) := by
  have hl := h.len
  refine ⟨own'.lower hlo, by simp [hl], fun i u xs hu hx => ?_, h.ne⟩
  have key : OwI e2 lo w.heap.size w u xs := by
    rcases ins_get hl hu hx with ⟨j, h1, h2⟩ | ⟨rfl, rfl⟩
    · exact h.rows j u xs h1 h2
    · exact hp
  exact (key.chg (Chg.of_below hb) (by omega)).wide (Nat.le_refl _) hb.size (Nat.le_refl _)
section
variable {P : Program} {N : Nat} {Q : Exit → Fr → World → Prop} {l : Fr} {w : World} {ops : Array Oper} {K : Fr → World → Prop}
variable {d : Nat} {ty : TypeId} {pos : String} {af : Array Edge} {g : Option (Nat × Bool)}
/-- A sum, whatever it is: it wraps. -/
theorem o_addW {x y : Operand} {t t' : TypeId} {a b : Int} (hx : ev l x = some (.int .i64 a)) (hy : ev l y = some (.int .i64 b)) (k : K ((d, .int .i64 (IntKind.i64.wrap (a + b))) :: l) w)
    (hg : wantedL ops l g = some true := by rfl) (hd : Nat.blt d N = true := by rfl) : OpW P N ops Q ⟨some d, .binOp .add t x y t', ty, pos, af, g⟩ l w K :=
  OpW.val (fun fr ha => by simp [execOp, ha.ev hx, ha.ev hy, eqGuard, binOp, Op.intArith]) k hg hd
end
theorem OwR.one {e e2 lo : Nat} {w : World} {v : Value} {vs : List Value} {xss : List (List Int)} (h : OwR e e2 lo w v vs xss) : ∀ u ∈ vs, u.oneCell' = true := fun u hu => by
  obtain ⟨i, hi', rfl⟩ := List.getElem_of_mem hu
  obtain ⟨_, _, hsh, _⟩ := (h.rows i _ _ (List.getElem?_eq_getElem hi') (List.getElem?_eq_getElem (by rw [← h.len]; exact hi'))).own.shape
  rw [hsh]; rfl
end Go.Fw
namespace Go.Proofs
open Go Go.Fw Go.RowKit Go.Rk
theorem flat_take_succ {xss : List (List Int)} {i : Nat} (h : i < xss.length) : (xss.take (i + 1)).flatten = (xss.take i).flatten ++ xss[i] := by
  rw [List.take_succ_eq_append_getElem h, List.flatten_append]; simp
theorem flat_part_le {xss : List (List Int)} {i k : Nat} (h : i < xss.length) (hk : k ≤ xss[i].length) : (xss.take i).flatten.length + k ≤ xss.flatten.length := by
  have e : xss.flatten = (xss.take (i + 1)).flatten ++ (xss.drop (i + 1)).flatten := by rw [← List.flatten_append, List.take_append_drop]
  rw [e, flat_take_succ h, List.length_append, List.length_append]
  omega
end Go.Proofs
/- All trees, the reference's way. -/
namespace Go.Fw
open Go Go.RowKit
theorem grown_of_below {w w' : World} (h : Below w.heap.size w w') (row : Option Nat) : w.grownBy w' row := ⟨h.os, h.tape, h.output, h.size, fun k hk _ => h.block k hk⟩
theorem grown_trans {w w1 w2 : World} {row row2 : Option Nat} (h : w.grownBy w1 row) (h2 : w1.grownBy w2 row2) (hr : ∀ k, row2 = some k → row = some k ∨ w.heap.size ≤ k) : w.grownBy w2 row :=
  ⟨h2.os.trans h.os, h2.tape.trans h.tape, h2.output.trans h.output, Nat.le_trans h.size h2.size, fun k hk hne => by
    rw [h2.block k (Nat.lt_of_lt_of_le hk h.size) (fun e => by rcases hr k e.symm with h1 | h1; exact hne h1.symm; omega)]
    exact h.block k hk hne⟩
end Go.Fw
namespace Go.Proofs
open Go Go.Fw Go.RowKit Go.Rk
theorem growDown_len (g : Int → List (List Int)) (m : Nat) : growDown g (m + 1) = g ((m : Int) + 1) ++ growDown g m := rfl
end Go.Proofs
/- Densities, what a tree lacks, the character and the order of a tableau: the reference's; the public functions. -/
namespace Go.Proofs
open Go Go.Fw Go.RowKit Go.Rk
theorem OrderOf_any {lo hi : Nat} {w : World} {v : Value} {x : TabD} (h : IT lo hi w v x) :
    Does Tryz.prog 18 [v] w fun r w' => r = .tuple #[.int .i64 (orderOf x).1, .int .i64 (orderOf x).2] ∧ Chg 0 0 w w' := by
  have hz := h.hi_le
  obtain ⟨va, vb, rfl, hA, hB⟩ := h
  have hT : IT lo hi w (.agg #[va, vb]) x := ⟨_, _, rfl, hA, hB⟩
  refine Does.enter Tryz.func18 Tryz.ntmps18 rfl (by rfl) ?_
  repeat' (first|refine X.O ?_|refine X.A ?_|refine X.B ?_|refine X.C ?_|refine X.D ?_|refine X.E ?_|refine X.F ?_|refine X.G ?_|refine X.H ?_|refine X.I ?_|fail)
  refine WL.step (o_box (by rfl) ?_)
  intro w1 hb1 hbl1 hz1
  have hc1 := Chg.of_below hbl1
  replace hT := hT.below hbl1 hz
  repeat' (first|refine X.O ?_|refine X.A ?_|refine X.B ?_|refine X.C ?_|refine X.D ?_|refine X.E ?_|refine X.F ?_|refine X.G ?_|refine X.H ?_|refine X.I ?_|fail)
  refine WL.step (o_loadS (by rfl) hb1 (by rfl) ?_)
  refine WL.call (IsTableau_any hT) ?_
  rintro _ w2 ⟨rfl, hc2⟩
  replace hT := hT.chg hc2 (by omega)
  replace hb1 := hb1.chg0 hc2
  unfold orderOf
  repeat' (first|refine X.O ?_|refine X.A ?_|refine X.B ?_|refine X.C ?_|refine X.D ?_|refine X.E ?_|refine X.F ?_|refine X.G ?_|refine X.H ?_|refine X.I ?_|fail)
  first|refine X.J (fun _ => ?_) (fun _ => ?_)|refine X.L (fun _ => ?_) (fun _ => ?_)|refine X.M (fun _ => ?_) (fun _ => ?_)|refine X.R (fun _ => ?_) (fun _ => ?_)|fail
  · rename_i hbad
    repeat' (first|refine X.O ?_|refine X.A ?_|refine X.B ?_|refine X.C ?_|refine X.D ?_|refine X.E ?_|refine X.F ?_|refine X.G ?_|refine X.H ?_|refine X.I ?_|fail)
    refine ⟨_, ret2 rfl (by rfl) (by rfl), ?_⟩
    rw [hbad]
    exact ⟨rfl, hc1.trans hc2⟩
  · rename_i hok
    rw [if_pos hok]
    repeat' (first|refine X.O ?_|refine X.A ?_|refine X.B ?_|refine X.C ?_|refine X.D ?_|refine X.E ?_|refine X.F ?_|refine X.G ?_|refine X.H ?_|refine X.I ?_|fail)
    refine WL.step (o_loadS (by rfl) hb1 (by rfl) ?_)
    repeat' (first|refine X.O ?_|refine X.A ?_|refine X.B ?_|refine X.C ?_|refine X.D ?_|refine X.E ?_|refine X.F ?_|refine X.G ?_|refine X.H ?_|refine X.I ?_|fail)
    refine WL.call (order_any hT (isTab_iff hok)) ?_
    rintro _ w3 ⟨rfl, hc3⟩
    repeat' (first|refine X.O ?_|refine X.A ?_|refine X.B ?_|refine X.C ?_|refine X.D ?_|refine X.E ?_|refine X.F ?_|refine X.G ?_|refine X.H ?_|refine X.I ?_|fail)
    refine ⟨_, ret2 rfl (by rfl) (by rfl), ?_⟩
    exact ⟨rfl, (hc1.trans hc2).trans hc3⟩
end Go.Proofs
/- The first fault of a tableau and its residuals: both sides. -/
namespace Go.Proofs
open Go Go.Fw Go.RowKit Go.Rk
end Go.Proofs
