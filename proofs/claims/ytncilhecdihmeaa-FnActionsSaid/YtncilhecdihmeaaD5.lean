/- The trees with up to eight nodes (the walks of A34 and A35 with more fuel), the tree at an index, densities. -/
import Derived.Test.YtncilhecdihmeaaA34
import Derived.Test.YtncilhecdihmeaaD8
namespace Go.Rk
open Go.Fw Go.Proofs
def treesN8 (n : Nat) : List (List Int) := treesGo 116 (firstT n)
theorem treesN8_check : ((List.range 8).all fun i => ((treesN8 (i + 1)).all fun t => isLev t && decide (t.length = i + 1)) && (match (treesN8 (i + 1)).getLast? with | some t => (nextT t).isNone | none => false)) = true := by kernel_rfl
theorem treesN8_ok {n : Nat} (h0 : 1 ≤ n) (h1 : n ≤ 8) : (∀ t ∈ treesN8 n, Lv t ∧ t.length = n) ∧ ∀ t, (treesN8 n).getLast? = some t → nextT t = none := by
  have h := List.all_eq_true.1 treesN8_check (n - 1) (List.mem_range.2 (by omega))
  rw [show n - 1 + 1 = n from by omega, Bool.and_eq_true] at h
  refine ⟨fun t ht => ?_, fun t ht => ?_⟩
  · have h2 := List.all_eq_true.1 h.1 t ht
    rw [Bool.and_eq_true, decide_eq_true_eq] at h2
    exact ⟨(isLev_iff h2.1).1, h2.2⟩
  · have h2 := h.2
    rw [ht] at h2
    cases hn : nextT t with
    | none => rfl
    | some t' => simp only [hn] at h2; cases h2

def treesTo8 : Nat → List (List Int)
  | 0 => []
  | n + 1 => treesTo8 n ++ treesN8 (n + 1)
theorem treesN8_len : ((List.range 8).all fun i => decide ((treesN8 (i + 1)).length ≤ 115)) = true := by kernel_rfl
theorem treesN8_le {n : Nat} (h0 : 1 ≤ n) (h1 : n ≤ 8) : (treesN8 n).length ≤ 115 := by
  have h := List.all_eq_true.1 treesN8_len (n - 1) (List.mem_range.2 (by omega))
  rw [show n - 1 + 1 = n from by omega] at h
  exact of_decide_eq_true h
theorem treesTo8_ok {n : Nat} (h : n ≤ 8) : ∀ t ∈ treesTo8 n, Lv t ∧ t.length ≤ n := by
  induction n with
  | zero => intro t ht; cases ht
  | succ n ih =>
    intro t ht
    rcases List.mem_append.1 ht with h1 | h1
    · have := ih (by omega) t h1; exact ⟨this.1, by omega⟩
    · have := (treesN8_ok (n := n + 1) (by omega) h).1 t h1; exact ⟨this.1, by omega⟩

theorem treesN8_eq_check : ((List.range 6).all fun i => decide (treesN8 (i + 1) = treesN (i + 1))) = true := by kernel_rfl
theorem treesN8_eq {n : Nat} (h0 : 1 ≤ n) (h1 : n ≤ 6) : treesN8 n = treesN n := by
  have h := List.all_eq_true.1 treesN8_eq_check (n - 1) (List.mem_range.2 (by omega))
  rw [show n - 1 + 1 = n from by omega] at h
  exact of_decide_eq_true h
theorem treesTo8_eq : ∀ {n : Nat}, n ≤ 6 → treesTo8 n = treesTo n
  | 0, _ => rfl
  | n + 1, h => by rw [treesTo8, treesTo, treesTo8_eq (by omega), treesN8_eq (by omega) h]
theorem treesTo8_pre {n : Nat} (h : n ≤ 6) : ∃ r, treesTo8 8 = treesTo n ++ r := by
  have e : ∀ k, ∃ r, treesTo8 (n + k) = treesTo n ++ r := fun k => by
    induction k with
    | zero => exact ⟨[], by rw [Nat.add_zero, treesTo8_eq h, List.append_nil]⟩
    | succ k ih => obtain ⟨r, hr⟩ := ih; exact ⟨r ++ treesN8 (n + k + 1), by rw [show n + (k + 1) = n + k + 1 from rfl, treesTo8, hr, List.append_assoc]⟩
  have := e (8 - n)
  rwa [show n + (8 - n) = 8 from by omega] at this
end Go.Rk
namespace Go.Proofs
open Go Go.Fw Go.RowKit Go.Rk
theorem treesOf8_any (n : Nat) (hn0 : 1 ≤ n) (hn1 : n ≤ 8) (w : World) : Does Try.prog 60 [.int .i64 (n : Nat)] w fun r w' => NewSS 22 2 w r w' (treesN8 n) := by
  have hok := treesN8_ok hn0 hn1
  have hle := treesN8_le hn0 hn1
  have hfl := firstT_length n
  refine Does.enter Try.func60 Try.ntmps60 rfl (by rfl) ?_
  repeat' (first|refine X.O ?_|refine X.A ?_|refine X.B ?_|refine X.C ?_|refine X.D ?_|refine X.E ?_|refine X.F ?_|refine X.G ?_|refine X.H ?_|refine X.I ?_|fail)
  refine WL.step (o_lit (us := []) (by rfl) (by rfl) rfl (by decide) one0 ?_)
  intro v1 w1 hown1 hbl1 hz1 _
  refine WL.step (o_lit (us := []) (by rfl) (by rfl) rfl (by decide) one0 ?_)
  intro v2 w2 hown2 hbl2 hz2 _
  have hbl12 : Below w.heap.size w w2 := hbl1.trans (Below.mono hbl2 (by omega))
  repeat' (first|refine X.O ?_|refine X.A ?_|refine X.B ?_|refine X.C ?_|refine X.D ?_|refine X.E ?_|refine X.F ?_|refine X.G ?_|refine X.H ?_|refine X.I ?_|fail)
  refine WP.loop (fun (s : Nat × Value) => [(0, .int .i64 (n : Nat)), (3, s.2), (4, v2), (11, .int .i64 (n : Nat)), (12, .int .i64 (s.1 : Nat))])
    (fun s w3 => s.1 ≤ n ∧ Own w.heap.size 2 w3 s.2 (Ints ((firstT n).take s.1)) ∧ Own w.heap.size 22 w3 v2 [] ∧ Below w.heap.size w w3)
    (fun s => n - s.1) (0, v1) ⟨rfl, rfl, rfl, rfl, rfl, trivial⟩ ⟨by dsimp only; omega, by simpa [Ints] using hown1.below hbl2 (Nat.le_refl _), hown2.lower (by omega), hbl12⟩ ?_
  rintro ⟨i, vt⟩ w3 ⟨hi1, hown3, ho3, hbl3⟩
  dsimp only at hi1 hown3 ⊢
  have hz3 := hbl3.size
  repeat' (first|refine X.O ?_|refine X.A ?_|refine X.B ?_|refine X.C ?_|refine X.D ?_|refine X.E ?_|refine X.F ?_|refine X.G ?_|refine X.H ?_|refine X.I ?_|fail)
  first|refine X.J (fun _ => ?_) (fun _ => ?_)|refine X.L (fun _ => ?_) (fun _ => ?_)|refine X.M (fun _ => ?_) (fun _ => ?_)|refine X.R (fun _ => ?_) (fun _ => ?_)|fail
  · rename_i hlt
    have hli : i < n := by omega
    repeat' (first|refine X.O ?_|refine X.A ?_|refine X.B ?_|refine X.C ?_|refine X.D ?_|refine X.E ?_|refine X.F ?_|refine X.G ?_|refine X.H ?_|refine X.I ?_|fail)
    refine o_append1 (u := .int .i64 _) (fun _ => by rfl) (by rfl) hown3 rfl (by simp [Ints, hfl, maxLen]; omega) (by simp [Ints, hfl]; omega) (by omega) ?_
    intro p1 v4 w4 hown4 hbl4 hf4 hz4 _
    repeat' (first|refine X.O ?_|refine X.A ?_|refine X.B ?_|refine X.C ?_|refine X.D ?_|refine X.E ?_|refine X.F ?_|refine X.G ?_|refine X.H ?_|refine X.I ?_|fail)
    refine ⟨(i + 1, v4), ⟨rfl, rfl, rfl, rfl, (by first|rfl|exact X.T (by omega)), trivial⟩, ⟨by dsimp only; omega, ?_, ho3.keep fun k hk => hf4 k (ho3.block k hk).2 (ho3.ne_block hown3 (by decide) hk), hbl3.trans hbl4⟩, by dsimp only; omega⟩
    dsimp only
    rw [← Ints_snoc (show i < (firstT n).length by omega) (y := ((i : Nat) : Int)) (firstT_get _)]
    exact hown4
  rename_i hgei
  have hie : i = n := by omega
  subst hie
  rw [List.take_of_length_le (by omega)] at hown3
  obtain ⟨at', ct, hvt, _⟩ := hown3.shape
  rw [Ints_length, hfl] at hvt
  subst hvt
  obtain ⟨wL, hwL⟩ : ∃ z, w3.heap.size = z := ⟨_, rfl⟩
  have hT3 : OwI 2 w.heap.size wL w3 (.slice at' i ct) (firstT i) := ⟨hown3, fun k hk => by have := (hown3.block k hk).2; omega, by omega⟩
  repeat' (first|refine X.O ?_|refine X.A ?_|refine X.B ?_|refine X.C ?_|refine X.D ?_|refine X.E ?_|refine X.F ?_|refine X.G ?_|refine X.H ?_|refine X.I ?_|fail)
  refine WP.loop (fun (s : Nat × List Int × Value × List (List Int)) => [(0, .int .i64 (i : Nat)), (3, .slice at' i ct), (4, s.2.2.1)])
    (fun s w4 => s.1 ≤ 115 ∧ treesN8 i = s.2.2.2 ++ treesGo (s.1 + 1) s.2.1 ∧ OwI 2 w.heap.size wL w4 (.slice at' i ct) s.2.1 ∧ (∃ vs, OwSSv 22 2 w.heap.size w4.heap.size w4 s.2.2.1 vs s.2.2.2 ∧ ∀ (j : Nat) u, vs[j]? = some u → ∀ k, u.ownBlock = some k → wL ≤ k) ∧ Below w.heap.size w w4 ∧ wL ≤ w4.heap.size)
    (fun s => s.1) (115, firstT i, v2, []) ⟨rfl, rfl, rfl, trivial⟩ ⟨Nat.le_refl _, rfl, hT3, ⟨[], OwSSv.none ho3 (by decide), fun j u hu => by simp at hu⟩, hbl3, by omega⟩ ?_
  rintro ⟨f, t, vo, out⟩ w4 ⟨hf20, hlist, hT4, ⟨vs, oO, hhigh⟩, hbl4, hwl4⟩
  dsimp only at hf20 hlist hT4 oO ⊢
  have hz4 := hbl4.size
  have htm : t ∈ treesN8 i := by rw [hlist]; unfold treesGo; simp
  have htl := (hok.1 t htm).2
  have htv := (hok.1 t htm).1
  have hvl : vs.length = out.length := oO.len
  have hol : out.length + 1 ≤ 115 := by
    have e := congrArg List.length hlist
    unfold treesGo at e
    simp at e
    omega
  repeat' (first|refine X.O ?_|refine X.A ?_|refine X.B ?_|refine X.C ?_|refine X.D ?_|refine X.E ?_|refine X.F ?_|refine X.G ?_|refine X.H ?_|refine X.I ?_|fail)
  refine WL.call (Clone_any hT4.rd (by omega)) ?_
  intro v5 w5 hN5
  have hz5 := hN5.2.size
  obtain ⟨a5, c5, hv5, _⟩ := hN5.1.shape
  have oO5 := oO.chg (Chg.of_below hN5.2) (by omega)
  refine o_append1 (u := v5) (fun _ => by rfl) (by rfl) oO5.own (by rw [hv5]; rfl) (by simp [hvl, maxLen]; omega) (by simp [hvl]; omega) (by omega) ?_
  intro p2 v6 w6 hown6 hbl6 hf6 hz6 _
  have o6 := oO5.snoc hN5.ow (Nat.le_refl _) (by omega) hown6 (by omega) hf6
  have hT5 := hT4.chg (Chg.of_below hN5.2) (by omega)
  have hT6 : OwI 2 w.heap.size wL w6 (.slice at' i ct) t := ⟨hT5.own.keep fun k hk => hf6 k (hT5.own.block k hk).2 (fun e => oO5.own.ne_block hT5.own oO5.ne e hk), hT5.lt, by omega⟩
  have hhigh6 : ∀ (j : Nat) u, (vs ++ [v5])[j]? = some u → ∀ k, u.ownBlock = some k → wL ≤ k := fun j u hu k hk => by
    rw [List.getElem?_append] at hu
    split at hu
    · exact hhigh j u hu k hk
    · have : u = v5 := by
        have hlt := (List.getElem?_eq_some_iff.1 hu).1
        simp only [List.length_singleton] at hlt
        have hj0 : j - vs.length = 0 := by omega
        rw [hj0] at hu
        simpa using hu.symm
      subst this
      have := (hN5.1.block k hk).1
      omega
  have hbl46 : Below w.heap.size w w6 := (hbl4.trans (Below.mono hN5.2 (by omega))).trans hbl6
  repeat' (first|refine X.O ?_|refine X.A ?_|refine X.B ?_|refine X.C ?_|refine X.D ?_|refine X.E ?_|refine X.F ?_|refine X.G ?_|refine X.H ?_|refine X.I ?_|fail)
  refine WP.loop (fun (m : Nat) => [(0, .int .i64 (i : Nat)), (3, .slice at' i ct), (4, v6), (6, .int .i64 ((m : Int) - 1))])
    (fun m w7 => m ≤ i ∧ lastBig t t.length = lastBig t m ∧ Still w6 w7) (fun m => m) i ⟨rfl, rfl, rfl, (by first|rfl|exact X.T (by omega)), trivial⟩ ⟨Nat.le_refl _, by rw [htl], Still.refl _⟩ ?_
  rintro m w7 ⟨hm1, hbig, hs7⟩
  have hz7 := hs7.size
  have hT7 := hT6.chg (Chg.of_still hs7) (by omega)
  repeat' (first|refine X.O ?_|refine X.A ?_|refine X.B ?_|refine X.C ?_|refine X.D ?_|refine X.E ?_|refine X.F ?_|refine X.G ?_|refine X.H ?_|refine X.I ?_|fail)
  by_cases hm0 : m = 0
  · refine WL.gsplitD (by rfl) (by rfl) (by rfl) (fun hb => absurd hb (by omega)) (fun _ => ?_)
    repeat' (first|refine X.O ?_|refine X.A ?_|refine X.B ?_|refine X.C ?_|refine X.D ?_|refine X.E ?_|refine X.F ?_|refine X.G ?_|refine X.H ?_|refine X.I ?_|fail)
    refine WP.condD (by rfl) (fun _ => ?_) (fun hb => absurd hb (by omega))
    have hno : nextT t = none := nextT_none (by rw [hbig, hm0]; rfl)
    repeat' (first|refine X.O ?_|refine X.A ?_|refine X.B ?_|refine X.C ?_|refine X.D ?_|refine X.E ?_|refine X.F ?_|refine X.G ?_|refine X.H ?_|refine X.I ?_|fail)
    refine ⟨_, ret1 rfl (by rfl), ?_⟩
    rw [hlist, treesGo_none f hno]
    exact ⟨⟨_, (o6.chg (Chg.of_still hs7) (by omega)).wide (Nat.le_refl _) (by omega) (Nat.le_refl _)⟩, hbl46.trans (hs7.below _)⟩
  refine WL.gsplitD (by rfl) (by rfl) (by rfl) (fun _ => ?_) (fun hb => absurd hb (by omega))
  repeat' (first|refine X.O ?_|refine X.A ?_|refine X.B ?_|refine X.C ?_|refine X.D ?_|refine X.E ?_|refine X.F ?_|refine X.G ?_|refine X.H ?_|refine X.I ?_|fail)
  have hmt : m - 1 < t.length := by omega
  refine WL.ixload (j := m - 1) hT7.rd (List.getElem?_eq_getElem hmt) ?_
  rintro p3 _ rfl
  repeat' (first|refine X.O ?_|refine X.A ?_|refine X.B ?_|refine X.C ?_|refine X.D ?_|refine X.E ?_|refine X.F ?_|refine X.G ?_|refine X.H ?_|refine X.I ?_|fail)
  first|refine X.J (fun _ => ?_) (fun _ => ?_)|refine X.L (fun _ => ?_) (fun _ => ?_)|refine X.M (fun _ => ?_) (fun _ => ?_)|refine X.R (fun _ => ?_) (fun _ => ?_)|fail
  · rename_i hle1
    have hstep : lastBig t m = lastBig t (m - 1) := by
      have := lastBig_step hmt (show ¬ 1 < t[m - 1] by omega)
      rw [show m - 1 + 1 = m from by omega] at this
      exact this
    repeat' (first|refine X.O ?_|refine X.A ?_|refine X.B ?_|refine X.C ?_|refine X.D ?_|refine X.E ?_|refine X.F ?_|refine X.G ?_|refine X.H ?_|refine X.I ?_|fail)
    exact ⟨m - 1, ⟨rfl, rfl, rfl, (by first|rfl|exact X.T (by omega)), trivial⟩, ⟨by omega, by rw [hbig, hstep], hs7⟩, by omega⟩
  rename_i hgt1
  obtain ⟨p, hp⟩ : ∃ p, m - 1 = p := ⟨_, rfl⟩
  have hpt : p < t.length := by omega
  have hhit : lastBig t t.length = some p := by
    have := lastBig_hit hmt (show 1 < t[m - 1] by omega)
    rw [show m - 1 + 1 = m from by omega] at this
    rw [hbig, this, hp]
  have hgp : 1 < t[p] := by have : 1 < t[m - 1] := by omega
                            simpa [hp] using this
  have hbp := htv.bd hpt
  have hp1 : 1 ≤ p := by
    apply Classical.byContradiction
    intro h0
    have e0 : p = 0 := by omega
    omega
  have hbl67 : Below w.heap.size w w7 := hbl46.trans (hs7.below _)
  repeat' (first|refine X.O ?_|refine X.A ?_|refine X.B ?_|refine X.C ?_|refine X.D ?_|refine X.E ?_|refine X.F ?_|refine X.G ?_|refine X.H ?_|refine X.I ?_|fail)
  refine WP.condD (by rfl) (fun hb => absurd hb (by omega)) (fun _ => ?_)
  repeat' (first|refine X.O ?_|refine X.A ?_|refine X.B ?_|refine X.C ?_|refine X.D ?_|refine X.E ?_|refine X.F ?_|refine X.G ?_|refine X.H ?_|refine X.I ?_|fail)
  refine WP.loop (fun (m2 : Nat) => [(0, .int .i64 (i : Nat)), (3, .slice at' i ct), (4, v6), (6, .int .i64 (p : Nat)), (7, .int .i64 ((m2 : Int) - 1))])
    (fun m2 w8 => 1 ≤ m2 ∧ m2 ≤ p ∧ t[p] - 1 ≤ t[m2 - 1]?.getD 0 ∧ lastEq t (t[p] - 1) p = lastEq t (t[p] - 1) m2 ∧ Still w7 w8) (fun m2 => m2) p ⟨rfl, rfl, rfl, (by first|rfl|exact X.T (by omega)), (by first|rfl|exact X.T (by omega)), trivial⟩ ⟨hp1, Nat.le_refl _, ?_, rfl, Still.refl _⟩ ?_
  · have h1 := htv.next hp1 hpt
    rw [List.getElem?_eq_getElem (by omega), Option.getD_some]
    omega
  rintro m2 w8 ⟨hm20, hm21, hge2, heq2, hs8⟩
  have hz8 := hs8.size
  have hmt2 : m2 - 1 < t.length := by omega
  rw [List.getElem?_eq_getElem hmt2, Option.getD_some] at hge2
  have hT8 := hT7.chg (Chg.of_still hs8) (by omega)
  have hbq := htv.bd hmt2
  repeat' (first|refine X.O ?_|refine X.A ?_|refine X.B ?_|refine X.C ?_|refine X.D ?_|refine X.E ?_|refine X.F ?_|refine X.G ?_|refine X.H ?_|refine X.I ?_|fail)
  refine WP.drawn (fun w' => w'.heap = w8.heap) [(0, true), (1, true), (2, true), (3, true), (4, true), (5, true), (6, true), (7, true), (8, true), (9, true)] (by kernel_rfl) mixed ?_
  intro w9 hs9
  have hw9 : w9.heap = w8.heap := hs9.heap
  have hz9 := hs9.size
  have hT9 := hT8.chg (Chg.of_still hs9) (by omega)
  repeat' (first|refine X.U rfl ?_|refine X.V rfl ?_|refine X.W rfl ?_|refine X.Y rfl ?_|refine X.Z rfl ?_|refine WS.nil ?_|fail)
  refine WS.ixload (j := m2 - 1) rfl rfl hT9.rd (List.getElem?_eq_getElem hmt2) (fun w' hw' => same_heap (hw'.trans hw9.symm)) hw9 ?_
  rintro p4 _ rfl
  repeat' (first|refine X.U rfl ?_|refine X.V rfl ?_|refine X.W rfl ?_|refine X.Y rfl ?_|refine X.Z rfl ?_|refine WS.nil ?_|fail)
  refine WS.ixload (j := p) rfl rfl hT9.rd (List.getElem?_eq_getElem hpt) (fun w' hw' => same_heap (hw'.trans hw9.symm)) hw9 ?_
  rintro p5 _ rfl
  repeat' (first|refine X.U rfl ?_|refine X.V rfl ?_|refine X.W rfl ?_|refine X.Y rfl ?_|refine X.Z rfl ?_|refine WS.nil ?_|fail)
  repeat' (first|refine X.O ?_|refine X.A ?_|refine X.B ?_|refine X.C ?_|refine X.D ?_|refine X.E ?_|refine X.F ?_|refine X.G ?_|refine X.H ?_|refine X.I ?_|fail)
  first|refine X.J (fun _ => ?_) (fun _ => ?_)|refine X.L (fun _ => ?_) (fun _ => ?_)|refine X.M (fun _ => ?_) (fun _ => ?_)|refine X.R (fun _ => ?_) (fun _ => ?_)|fail
  · rename_i hne
    have h2 : 2 ≤ m2 := by
      apply Classical.byContradiction
      intro h0
      have e0 : m2 - 1 = 0 := by omega
      have := hbq.2
      omega
    have hstep : lastEq t (t[p] - 1) m2 = lastEq t (t[p] - 1) (m2 - 1) := by
      have := lastEq_step hmt2 hne
      rw [show m2 - 1 + 1 = m2 from by omega] at this
      exact this
    have hnx := htv.next (i := m2 - 1) (by omega) hmt2
    repeat' (first|refine X.O ?_|refine X.A ?_|refine X.B ?_|refine X.C ?_|refine X.D ?_|refine X.E ?_|refine X.F ?_|refine X.G ?_|refine X.H ?_|refine X.I ?_|fail)
    refine ⟨m2 - 1, ⟨rfl, rfl, rfl, rfl, (by first|rfl|exact X.T (by omega)), trivial⟩, ⟨by omega, by omega, ?_, by rw [heq2, hstep], hs8.trans hs9⟩, by omega⟩
    rw [List.getElem?_eq_getElem (by omega), Option.getD_some]
    omega
  rename_i heq
  have heqq : t[m2 - 1] = t[p] - 1 := Decidable.not_not.1 heq
  obtain ⟨q, hq⟩ : ∃ q, m2 - 1 = q := ⟨_, rfl⟩
  have hlq : lastEq t (t[p] - 1) p = q := by
    have := lastEq_hit hmt2 heqq
    rw [show m2 - 1 + 1 = m2 from by omega] at this
    rw [heq2, this, hq]
  have hnext := nextT_some hhit hpt hlq
  have hs79 := hs8.trans hs9
  have hbl79 : Below w.heap.size w w9 := hbl67.trans (hs79.below _)
  have o9 := o6.chg (Chg.of_still (hs7.trans hs79)) (by omega)
  repeat' (first|refine X.O ?_|refine X.A ?_|refine X.B ?_|refine X.C ?_|refine X.D ?_|refine X.E ?_|refine X.F ?_|refine X.G ?_|refine X.H ?_|refine X.I ?_|fail)
  refine WP.loop (fun (s : Nat × List Int) => [(0, .int .i64 (i : Nat)), (3, .slice at' i ct), (4, v6), (6, .int .i64 (p : Nat)), (7, .int .i64 (q : Nat)), (8, .int .i64 (s.1 : Nat))])
    (fun s w10 => p ≤ s.1 ∧ s.1 ≤ t.length ∧ s.2.length = t.length ∧ shiftGo (p - q) (t.length - p) p t = shiftGo (p - q) (t.length - s.1) s.1 s.2 ∧ OwI 2 w.heap.size wL w10 (.slice at' i ct) s.2 ∧ Chg w.heap.size wL w9 w10 ∧ w10.heap.size = w9.heap.size ∧ (∀ k, (Value.slice at' i ct).ownBlock ≠ some k → w10.heap[k]? = w9.heap[k]?)) (fun s => t.length - s.1) (p, t) ⟨rfl, rfl, rfl, rfl, (by first|rfl|exact X.T (by omega)), rfl, trivial⟩ ⟨Nat.le_refl _, by dsimp only; omega, rfl, rfl, hT9, Chg.refl _ _ _, rfl, fun _ _ => rfl⟩ ?_
  rintro ⟨j, tc⟩ w10 ⟨hj0, hj1, htc, hsh, hT10, hc10, hz10, hf10⟩
  dsimp only at hj0 hj1 htc hsh hT10 ⊢
  repeat' (first|refine X.O ?_|refine X.A ?_|refine X.B ?_|refine X.C ?_|refine X.D ?_|refine X.E ?_|refine X.F ?_|refine X.G ?_|refine X.H ?_|refine X.I ?_|fail)
  first|refine X.J (fun _ => ?_) (fun _ => ?_)|refine X.L (fun _ => ?_) (fun _ => ?_)|refine X.M (fun _ => ?_) (fun _ => ?_)|refine X.R (fun _ => ?_) (fun _ => ?_)|fail
  · rename_i hltj
    have hjt : j < t.length := by omega
    have hsrc : j - (p - q) < tc.length := by omega
    rw [show t.length - j = (t.length - (j + 1)) + 1 from by omega, shiftGo, List.getElem?_eq_getElem hsrc, Option.getD_some] at hsh
    repeat' (first|refine X.O ?_|refine X.A ?_|refine X.B ?_|refine X.C ?_|refine X.D ?_|refine X.E ?_|refine X.F ?_|refine X.G ?_|refine X.H ?_|refine X.I ?_|fail)
    refine WL.ixload (j := j - (p - q)) hT10.rd (List.getElem?_eq_getElem hsrc) ?_
    rintro p6 _ rfl
    refine WL.ixstore (j := j) hT10.own (by rw [Ints_length]; omega) ?_
    intro p7 w11 hown11 hbl11 hz11 hf11
    rw [Ints_set] at hown11
    repeat' (first|refine X.O ?_|refine X.A ?_|refine X.B ?_|refine X.C ?_|refine X.D ?_|refine X.E ?_|refine X.F ?_|refine X.G ?_|refine X.H ?_|refine X.I ?_|fail)
    exact ⟨(j + 1, tc.set j tc[j - (p - q)]), ⟨rfl, rfl, rfl, rfl, rfl, (by first|rfl|exact X.T (by omega)), trivial⟩, ⟨by dsimp only; omega, by dsimp only; omega, by rw [List.length_set]; exact htc, hsh, ⟨hown11, hT10.lt, by have := hT10.hi_le; omega⟩, hc10.trans (Chg.ofStore hT10 hbl11 hz11 hf11), by omega, fun k hk => (hf11 k hk).trans (hf10 k hk)⟩, by dsimp only; omega⟩
  rename_i hgej
  have hje : j = t.length := by omega
  subst hje
  rw [Nat.sub_self, shiftGo] at hsh
  rw [hsh] at hnext
  have hf1 : 1 ≤ f := by
    apply Classical.byContradiction
    intro h0
    have e0 : f = 0 := by omega
    subst e0
    have e1 : treesN8 i = out ++ [t] := by rw [hlist, treesGo_some 0 hnext]; rfl
    have := hok.2 t (by rw [e1]; simp)
    rw [hnext] at this
    cases this
  have hl2 : treesN8 i = (out ++ [t]) ++ treesGo (f - 1 + 1) tc := by
    rw [hlist, treesGo_some f hnext, show f - 1 + 1 = f from by omega, List.append_assoc]; rfl
  have o10 : OwSSv 22 2 w.heap.size w10.heap.size w10 v6 (vs ++ [v5]) (out ++ [t]) := by
    have := o9.keepBut hT9.own (fun j u hu k hk e => by have := hhigh6 j u hu k hk; have := hT9.lt k e; omega) hz10 hf10
    exact this.wide (Nat.le_refl _) (by omega) (Nat.le_refl _)
  repeat' (first|refine X.O ?_|refine X.A ?_|refine X.B ?_|refine X.C ?_|refine X.D ?_|refine X.E ?_|refine X.F ?_|refine X.G ?_|refine X.H ?_|refine X.I ?_|fail)
  exact ⟨(f - 1, tc, v6, out ++ [t]), ⟨rfl, rfl, rfl, trivial⟩, ⟨by dsimp only; omega, hl2, hT10, ⟨_, o10, hhigh6⟩, hbl79.trans (hc10.below hbl79.size (.inl (Nat.le_refl _))), by omega⟩, by dsimp only; omega⟩

theorem treesTo8_le : ∀ n, n ≤ 8 → (treesTo8 n).length ≤ 115 * n
  | 0, _ => by simp [treesTo8]
  | n + 1, h => by
    have h1 := treesTo8_le n (by omega)
    have h2 := treesN8_le (n := n + 1) (by omega) h
    rw [treesTo8, List.length_append]
    omega

theorem treesTo8_any (n : Nat) (hn1 : n ≤ 8) (w : World) : Does Try.prog 43 [.int .i64 (n : Nat)] w fun r w' => NewSS 22 2 w r w' (treesTo8 n) := by
  refine Does.enter Try.func43 Try.ntmps43 rfl (by rfl) ?_
  repeat' (first|refine X.O ?_|refine X.A ?_|refine X.B ?_|refine X.C ?_|refine X.D ?_|refine X.E ?_|refine X.F ?_|refine X.G ?_|refine X.H ?_|refine X.I ?_|fail)
  refine WL.step (o_lit (us := []) (by rfl) (by rfl) rfl (by decide) one0 ?_)
  intro v1 w1 hown1 hbl1 hz1 _
  repeat' (first|refine X.O ?_|refine X.A ?_|refine X.B ?_|refine X.C ?_|refine X.D ?_|refine X.E ?_|refine X.F ?_|refine X.G ?_|refine X.H ?_|refine X.I ?_|fail)
  refine WP.loop (fun (s : Nat × Value) => [(0, .int .i64 (n : Nat)), (3, s.2), (4, .int .i64 ((s.1 : Int) + 1))])
    (fun s w2 => s.1 ≤ n ∧ (∃ vs, OwSSv 22 2 w.heap.size w2.heap.size w2 s.2 vs (treesTo8 s.1)) ∧ Below w.heap.size w w2)
    (fun s => n - s.1) (0, v1) ⟨rfl, rfl, rfl, trivial⟩ ⟨by dsimp only; omega, ⟨[], OwSSv.none hown1 (by decide)⟩, hbl1⟩ ?_
  rintro ⟨k, vo⟩ w2 ⟨hk, ⟨vs, oA⟩, hbl2⟩
  dsimp only at hk oA ⊢
  have hz2 := hbl2.size
  have hvl : vs.length = (treesTo8 k).length := oA.len
  have hle := treesTo8_le k (by omega)
  repeat' (first|refine X.O ?_|refine X.A ?_|refine X.B ?_|refine X.C ?_|refine X.D ?_|refine X.E ?_|refine X.F ?_|refine X.G ?_|refine X.H ?_|refine X.I ?_|fail)
  first|refine X.J (fun _ => ?_) (fun _ => ?_)|refine X.L (fun _ => ?_) (fun _ => ?_)|refine X.M (fun _ => ?_) (fun _ => ?_)|refine X.R (fun _ => ?_) (fun _ => ?_)|fail
  · rename_i hlt
    have hle2 := treesN8_le (n := k + 1) (by omega) (by omega)
    repeat' (first|refine X.O ?_|refine X.A ?_|refine X.B ?_|refine X.C ?_|refine X.D ?_|refine X.E ?_|refine X.F ?_|refine X.G ?_|refine X.H ?_|refine X.I ?_|fail)
    refine WL.call (treesOf8_any (k + 1) (by omega) (by omega) _) ?_ (hx := by rfl)
    rintro v3 w3 ⟨⟨us, o3⟩, hbl3⟩
    have hz3 := hbl3.size
    have hul : us.length = (treesN8 (k + 1)).length := o3.len
    have oA3 := oA.chg (Chg.of_below hbl3) (by omega)
    refine WL.step (o_append (us := vs) (news := us) (by rfl) (by rfl) oA3.own o3.own.src o3.one (by simp [maxLen]; omega) (by omega) (by omega) ?_)
    intro v4 w4 hown4 hg4 hbl4 _
    have hz4 := hg4.size
    have o4 := oA3.appendSS o3 (by omega) (by omega) hown4 hz4 (fun k hk hne => hg4.block k hk (fun e => hne e.symm))
    repeat' (first|refine X.O ?_|refine X.A ?_|refine X.B ?_|refine X.C ?_|refine X.D ?_|refine X.E ?_|refine X.F ?_|refine X.G ?_|refine X.H ?_|refine X.I ?_|fail)
    exact ⟨(k + 1, v4), ⟨rfl, rfl, (by first|rfl|exact X.T (by omega)), trivial⟩, ⟨by dsimp only; omega, ⟨_, o4⟩, (hbl2.trans (Below.mono hbl3 (by omega))).trans hbl4⟩, by dsimp only; omega⟩
  · rename_i hge
    have hke : k = n := by omega
    subst hke
    repeat' (first|refine X.O ?_|refine X.A ?_|refine X.B ?_|refine X.C ?_|refine X.D ?_|refine X.E ?_|refine X.F ?_|refine X.G ?_|refine X.H ?_|refine X.I ?_|fail)
    refine ⟨_, ret1 rfl (by rfl), ?_⟩
    exact ⟨⟨vs, oA⟩, hbl2⟩

theorem TreeAt_any (i : Nat) (hi : i < (treesTo8 8).length) (hi2 : i ≤ 199) (w : World) : Does Try.prog 23 [.int .i64 (i : Nat)] w fun r w' => ∃ v, r = .tuple #[v, .int .i64 0] ∧ IS w.heap.size w'.heap.size w' v (treesTo8 8)[i] ∧ Chg 0 0 w w' := by
  refine Does.enter Try.func23 Try.ntmps23 rfl (by rfl) ?_
  repeat' (first|refine X.O ?_|refine X.A ?_|refine X.B ?_|refine X.C ?_|refine X.D ?_|refine X.E ?_|refine X.F ?_|refine X.G ?_|refine X.H ?_|refine X.I ?_|fail)
  refine WL.call (inRange_any _ 0 199 _) ?_
  rintro _ w1 ⟨rfl, hs1⟩
  have hz1 := hs1.size
  rw [decide_eq_true (show (0 : Int) ≤ (i : Nat) ∧ ((i : Nat) : Int) ≤ 199 from ⟨by omega, by omega⟩)]
  repeat' (first|refine X.O ?_|refine X.A ?_|refine X.B ?_|refine X.C ?_|refine X.D ?_|refine X.E ?_|refine X.F ?_|refine X.G ?_|refine X.H ?_|refine X.I ?_|fail)
  refine WL.call (treesTo8_any 8 (by omega) _) ?_
  rintro v2 w2 ⟨hS, hbl2⟩
  have hR := OwSS.rd hS
  obtain ⟨a2, c2, hv2⟩ := hR.shape
  subst hv2
  repeat' (first|refine X.O ?_|refine X.A ?_|refine X.B ?_|refine X.C ?_|refine X.D ?_|refine X.E ?_|refine X.F ?_|refine X.G ?_|refine X.H ?_|refine X.I ?_|fail)
  refine WL.ixload (j := i) hR (List.getElem?_eq_getElem hi) ?_
  intro p u hu
  repeat' (first|refine X.O ?_|refine X.A ?_|refine X.B ?_|refine X.C ?_|refine X.D ?_|refine X.E ?_|refine X.F ?_|refine X.G ?_|refine X.H ?_|refine X.I ?_|fail)
  refine ⟨_, ret2 rfl (by rfl) (by rfl), ?_⟩
  exact ⟨_, rfl, SL.wide RI.stable hu (by omega) (Nat.le_refl _) (Nat.le_refl _), (Chg.of_still hs1).trans (Chg.of_below hbl2)⟩
end Go.Proofs
