/- slices.insertionSortCmpFunc at [][]int64, whatever the comparison. -/
import Derived.Test.YteifmffmadnifaaE1
import Derived.Test.YteifmffmadnifaaA28
set_option maxRecDepth 8000
namespace Go.Rk
open Go.Fw Go.Proofs
def swapAt (d : List (List Int)) (j : Nat) : List (List Int) := (d.set (j + 1) (d[j]?.getD [])).set j (d[j + 1]?.getD [])
def sinkL (lt : List Int → List Int → Bool) : Nat → List (List Int) → List (List Int)
  | 0, d => d
  | j + 1, d => if lt (d[j + 1]?.getD []) (d[j]?.getD []) = true then sinkL lt j (swapAt d j) else d
def insGo (lt : List Int → List Int → Bool) : Nat → Nat → List (List Int) → List (List Int)
  | 0, _, d => d
  | f + 1, i, d => insGo lt f (i + 1) (sinkL lt i d)
def insSort (lt : List Int → List Int → Bool) (d : List (List Int)) : List (List Int) := insGo lt (d.length - 1) 1 d
theorem swapAt_length (d : List (List Int)) (j : Nat) : (swapAt d j).length = d.length := by simp [swapAt]
theorem sinkL_length (lt : List Int → List Int → Bool) (j : Nat) (d : List (List Int)) : (sinkL lt j d).length = d.length := by
  induction j generalizing d with
  | zero => rfl
  | succ j ih => rw [sinkL]; split; rw [ih, swapAt_length]; rfl
theorem insGo_length (lt : List Int → List Int → Bool) (f i : Nat) (d : List (List Int)) : (insGo lt f i d).length = d.length := by
  induction f generalizing i d with
  | zero => rfl
  | succ f ih => rw [insGo, ih, sinkL_length]
theorem insSort_length (lt : List Int → List Int → Bool) (d : List (List Int)) : (insSort lt d).length = d.length := insGo_length _ _ _ _
theorem swapAt_perm (d : List (List Int)) {j : Nat} (h : j + 1 < d.length) : (swapAt d j).Perm d := by
  obtain ⟨x, hx⟩ : ∃ x, d[j] = x := ⟨_, rfl⟩
  obtain ⟨y, hy⟩ : ∃ y, d[j + 1] = y := ⟨_, rfl⟩
  have h1 : d = d.take j ++ x :: y :: d.drop (j + 2) := by
    rw [← hx, ← hy, ← List.drop_eq_getElem_cons (show j + 1 < d.length from h), ← List.drop_eq_getElem_cons (show j < d.length by omega), List.take_append_drop]
  have hl : (d.take j).length = j := by rw [List.length_take]; omega
  have h2 : swapAt d j = d.take j ++ y :: x :: d.drop (j + 2) := by
    unfold swapAt
    rw [List.getElem?_eq_getElem h, List.getElem?_eq_getElem (show j < d.length by omega), hx, hy]
    show (d.set (j + 1) x).set j y = _
    obtain ⟨t, ht⟩ : ∃ t, d.take j = t := ⟨_, rfl⟩
    obtain ⟨r, hr⟩ : ∃ r, d.drop (j + 2) = r := ⟨_, rfl⟩
    rw [ht] at hl
    rw [ht, hr] at h1 ⊢
    rw [h1]
    subst hl
    simp [List.set_append]
  rw [h2]
  exact List.Perm.trans (List.Perm.append_left _ (List.Perm.swap _ _ _)) (by rw [← h1])
theorem sinkL_perm (lt : List Int → List Int → Bool) (j : Nat) (d : List (List Int)) (h : j < d.length) : (sinkL lt j d).Perm d := by
  induction j generalizing d with
  | zero => exact List.Perm.refl _
  | succ j ih =>
    rw [sinkL]
    split
    · exact (ih _ (by rw [swapAt_length]; omega)).trans (swapAt_perm d h)
    · exact List.Perm.refl _
theorem insGo_perm (lt : List Int → List Int → Bool) (f i : Nat) (d : List (List Int)) (h : i + f ≤ d.length) : (insGo lt f i d).Perm d := by
  induction f generalizing i d with
  | zero => exact List.Perm.refl _
  | succ f ih => rw [insGo]; exact (ih _ _ (by rw [sinkL_length]; omega)).trans (sinkL_perm lt i d (by omega))
theorem insSort_perm (lt : List Int → List Int → Bool) (d : List (List Int)) : (insSort lt d).Perm d := by
  cases d with
  | nil => exact List.Perm.refl _
  | cons x d => exact insGo_perm _ _ _ _ (by simp; omega)
end Go.Rk
namespace Go.Fw
open Go Go.RowKit Go.Rk
theorem OwSSv.ones {e e2 lo hi : Nat} {w : World} {v : Value} {vs : List Value} {xss : List (List Int)} (h : OwSSv e e2 lo hi w v vs xss) : ∀ u ∈ vs, u.oneCell' = true := fun u hu => by
  obtain ⟨i, hi', rfl⟩ := List.getElem_of_mem hu
  obtain ⟨_, _, hsh, _⟩ := (h.rows i _ _ (List.getElem?_eq_getElem hi') (List.getElem?_eq_getElem (by rw [← h.len]; exact hi'))).own.shape
  rw [hsh]; rfl
/-- Two neighbours change places. -/
theorem OwSSv.swap {e e2 lo hi j : Nat} {w w' : World} {v : Value} {vs : List Value} {xss : List (List Int)} (h : OwSSv e e2 lo hi w v vs xss) {u1 u2 : Value} {x1 x2 : List Int} (h1 : vs[j]? = some u1) (h2 : vs[j + 1]? = some u2) (g1 : xss[j]? = some x1) (g2 : xss[j + 1]? = some x2)
    (ho : Own lo e w' v ((vs.set (j + 1) u1).set j u2)) (hz : w'.heap.size = w.heap.size) (hs : ∀ k, v.ownBlock ≠ some k → w'.heap[k]? = w.heap[k]?) :
    OwSSv e e2 lo hi w' v ((vs.set (j + 1) u1).set j u2) ((xss.set (j + 1) x1).set j x2) := by
  have l1 := (List.getElem?_eq_some_iff.1 h1).1
  have l2 := (List.getElem?_eq_some_iff.1 h2).1
  have m1 := (List.getElem?_eq_some_iff.1 g1).1
  have m2 := (List.getElem?_eq_some_iff.1 g2).1
  -- where a place's row came from
  obtain ⟨σ, hσ⟩ : ∃ σ : Nat → Nat, σ = fun i => if i = j then j + 1 else if i = j + 1 then j else i := ⟨_, rfl⟩
  have src : ∀ (i : Nat), ((vs.set (j + 1) u1).set j u2)[i]? = vs[σ i]? ∧ ((xss.set (j + 1) x1).set j x2)[i]? = xss[σ i]? := fun i => by
    subst hσ
    dsimp only
    by_cases hi : i = j
    · subst hi
      rw [if_pos rfl, List.getElem?_set_self (by rw [List.length_set]; exact l1), List.getElem?_set_self (by rw [List.length_set]; exact m1), h2, g2]
      exact ⟨rfl, rfl⟩
    · rw [if_neg hi, List.getElem?_set_ne (Ne.symm hi), List.getElem?_set_ne (Ne.symm hi)]
      by_cases hi2 : i = j + 1
      · subst hi2
        rw [if_pos rfl, List.getElem?_set_self l2, List.getElem?_set_self m2, h1, g1]
        exact ⟨rfl, rfl⟩
      · rw [if_neg hi2, List.getElem?_set_ne (Ne.symm hi2), List.getElem?_set_ne (Ne.symm hi2)]
        exact ⟨rfl, rfl⟩
  have inj : ∀ i i', i ≠ i' → σ i ≠ σ i' := fun i i' hne => by
    subst hσ
    dsimp only
    split <;> split <;> (try split) <;> (try split) <;> omega
  refine ⟨ho, h.lt, by rw [hz]; exact h.hi_le, by simp [h.len], fun i u xs hu hx => ?_, fun i i' a b hne ha hb => ?_, h.ne⟩
  · rw [(src i).1] at hu
    rw [(src i).2] at hx
    have hr := h.rows _ u xs hu hx
    exact ⟨hr.own.keep fun k hk => hs k fun e' => h.own.ne_block hr.own h.ne e' hk, hr.lt, by rw [hz]; exact hr.hi_le⟩
  · rw [(src i).1] at ha
    rw [(src i').1] at hb
    exact h.apart _ _ a b (inj i i' hne) ha hb
end Go.Fw
namespace Go.Proofs
open Go Go.Fw Go.RowKit Go.Rk
/-- What is asked of a comparison of rows. -/
def CmpRows (g : FuncId) (cf : List Int → List Int → Int) : Prop :=
  ∀ {lo hi lo' hi' : Nat} {w : World} {v v' : Value} {xs ys : List Int}, IS lo hi w v xs → IS lo' hi' w v' ys → Does Try.prog g [v, v'] w fun r w' => r = .int .i64 (cf xs ys) ∧ Still w w'
/-- What a sort leaves: the slice's own row alone has turned. -/
structure Sorted (lo : Nat) (v : Value) (w w' : World) : Prop where
  bel : Below lo w w'
  size : w'.heap.size = w.heap.size
  out : ∀ k, v.ownBlock ≠ some k → w'.heap[k]? = w.heap[k]?
theorem Sorted.refl (lo : Nat) (v : Value) (w : World) : Sorted lo v w w := ⟨Below.refl _ _, rfl, fun _ _ => rfl⟩
theorem Sorted.trans {lo : Nat} {v : Value} {a b c : World} (h : Sorted lo v a b) (h' : Sorted lo v b c) : Sorted lo v a c := ⟨h.bel.trans h'.bel, h'.size.trans h.size, fun k hk => (h'.out k hk).trans (h.out k hk)⟩
theorem Sorted.of_still {lo : Nat} {v : Value} {a b : World} (h : Still a b) : Sorted lo v a b := ⟨h.below _, h.size, fun k _ => by rw [h.heap]⟩
set_option maxHeartbeats 2000000 in
theorem insertion_any {g : FuncId} [FuncTy Try.prog g] {cf : List Int → List Int → Int} (hcf : CmpRows g cf) {lo hi : Nat} {w : World} {v : Value} {vs : List Value} {xss : List (List Int)} (h : OwSSv 23 2 lo hi w v vs xss) (hn : xss.length ≤ 1000000) :
    Does Try.prog 210 [v, .int .i64 0, .int .i64 (xss.length : Nat), .func (.func g) #[] #[]] w fun r w' => r = .tuple #[] ∧ (∃ vs', OwSSv 23 2 lo hi w' v vs' (insSort (fun x y => decide (cf x y < 0)) xss)) ∧ Sorted lo v w w' := by
  obtain ⟨lt, hlt⟩ : ∃ lt : List Int → List Int → Bool, (fun x y => decide (cf x y < 0)) = lt := ⟨_, rfl⟩
  rw [hlt]
  have hltd : ∀ x y, decide (cf x y < 0) = lt x y := fun x y => by rw [← hlt]
  refine Does.enter Try.func210 Try.ntmps210 rfl (by rfl) ?_
  repeat' (first | refine WL.step (o_s (by rfl) ?_) | refine WL.step (o_len (by rfl) ?_) | refine WL.step (o_add (by rfl) (by rfl) (by unfold InI; omega) ?_) | refine WL.step (o_sub (by rfl) (by rfl) (by unfold InI; omega) ?_) | refine WL.step (OpW.pass (by rfl) ?_) | refine WL.nil ?_ | refine thenN ?_ | refine WP.region ?_ | refine WP.seq ?_ | refine WP.block ?_ | refine thenR ?_ | refine thenX ?_ | refine blkN ?_ | refine blkHit ?_ | refine blkR ?_ | refine blkMiss (by rfl) ?_ | refine WP.ret ?_ | refine WP.exit ?_ | refine WP.skip ?_ | refine WP.label ?_ | refine WP.condT (by rfl) ?_ | refine WP.condF (by rfl) ?_ | fail)
  obtain ⟨n, hnn⟩ : ∃ n, xss.length = n := ⟨_, rfl⟩
  rw [hnn] at hn ⊢
  refine WP.loop (fun (s : Nat × List (List Int)) => [(0, v), (1, .int .i64 0), (2, .int .i64 (n : Nat)), (3, .func (.func g) #[] #[]), (8, .int .i64 (s.1 : Nat))])
    (fun s w2 => 1 ≤ s.1 ∧ s.2.length = n ∧ insSort lt xss = insGo lt (n - s.1) s.1 s.2 ∧ (∃ vs', OwSSv 23 2 lo hi w2 v vs' s.2) ∧ Sorted lo v w w2)
    (fun s => n - s.1) (1, xss) ⟨rfl, rfl, rfl, rfl, rfl, trivial⟩ ⟨by dsimp only; omega, hnn, by unfold insSort; rw [hnn], ⟨vs, h⟩, Sorted.refl _ _ _⟩ ?_
  rintro ⟨i, d⟩ w2 ⟨hi1, hdl, hins, ⟨vs2, o2⟩, hso2⟩
  dsimp only at hi1 hdl hins o2 ⊢
  repeat' (first | refine WL.step (o_s (by rfl) ?_) | refine WL.step (o_len (by rfl) ?_) | refine WL.step (o_add (by rfl) (by rfl) (by unfold InI; omega) ?_) | refine WL.step (o_sub (by rfl) (by rfl) (by unfold InI; omega) ?_) | refine WL.step (OpW.pass (by rfl) ?_) | refine WL.nil ?_ | refine thenN ?_ | refine WP.region ?_ | refine WP.seq ?_ | refine WP.block ?_ | refine thenR ?_ | refine thenX ?_ | refine blkN ?_ | refine blkHit ?_ | refine blkR ?_ | refine blkMiss (by rfl) ?_ | refine WP.ret ?_ | refine WP.exit ?_ | refine WP.skip ?_ | refine WP.label ?_ | refine WP.condT (by rfl) ?_ | refine WP.condF (by rfl) ?_ | fail)
  first | refine WP.condD (by rfl) (fun _ => ?_) (fun _ => ?_) | refine WP.condND (by rfl) (fun _ => ?_) (fun _ => ?_) | refine WP.condN (by rfl) (fun _ => ?_) (fun _ => ?_) | refine WP.cond (by rfl) (fun _ => ?_) (fun _ => ?_) | fail
  · rename_i hlti
    have hli : i < n := by omega
    have hins' : insSort lt xss = insGo lt (n - (i + 1)) (i + 1) (sinkL lt i d) := by
      rw [hins, show n - i = (n - (i + 1)) + 1 from by omega, insGo]
    repeat' (first | refine WL.step (o_s (by rfl) ?_) | refine WL.step (o_len (by rfl) ?_) | refine WL.step (o_add (by rfl) (by rfl) (by unfold InI; omega) ?_) | refine WL.step (o_sub (by rfl) (by rfl) (by unfold InI; omega) ?_) | refine WL.step (OpW.pass (by rfl) ?_) | refine WL.nil ?_ | refine thenN ?_ | refine WP.region ?_ | refine WP.seq ?_ | refine WP.block ?_ | refine thenR ?_ | refine thenX ?_ | refine blkN ?_ | refine blkHit ?_ | refine blkR ?_ | refine blkMiss (by rfl) ?_ | refine WP.ret ?_ | refine WP.exit ?_ | refine WP.skip ?_ | refine WP.label ?_ | refine WP.condT (by rfl) ?_ | refine WP.condF (by rfl) ?_ | fail)
    refine WP.loop (fun (s : Nat × List (List Int)) => [(0, v), (1, .int .i64 0), (2, .int .i64 (n : Nat)), (3, .func (.func g) #[] #[]), (8, .int .i64 (i : Nat)), (9, .int .i64 (s.1 : Nat))])
      (fun s w3 => s.1 ≤ i ∧ s.2.length = n ∧ sinkL lt i d = sinkL lt s.1 s.2 ∧ (∃ vs', OwSSv 23 2 lo hi w3 v vs' s.2) ∧ Sorted lo v w w3)
      (fun s => s.1) (i, d) ⟨rfl, rfl, rfl, rfl, rfl, rfl, trivial⟩ ⟨Nat.le_refl _, hdl, rfl, ⟨vs2, o2⟩, hso2⟩ ?_
    rintro ⟨j, d3⟩ w3 ⟨hj1, hd3, hsk, ⟨vs3, o3⟩, hso3⟩
    dsimp only at hj1 hd3 hsk o3 ⊢
    have hvl3 : vs3.length = n := by rw [o3.len, hd3]
    have hR3 := o3.rd
    obtain ⟨av, cv, hv⟩ := hR3.shape
    rw [hd3] at hv
    repeat' (first | refine WL.step (o_s (by rfl) ?_) | refine WL.step (o_len (by rfl) ?_) | refine WL.step (o_add (by rfl) (by rfl) (by unfold InI; omega) ?_) | refine WL.step (o_sub (by rfl) (by rfl) (by unfold InI; omega) ?_) | refine WL.step (OpW.pass (by rfl) ?_) | refine WL.nil ?_ | refine thenN ?_ | refine WP.seq ?_ | refine WP.block ?_ | refine thenR ?_ | refine thenX ?_ | refine blkN ?_ | refine blkHit ?_ | refine blkR ?_ | refine blkMiss (by rfl) ?_ | refine WP.ret ?_ | refine WP.exit ?_ | refine WP.skip ?_ | refine WP.label ?_ | refine WP.condT (by rfl) ?_ | refine WP.condF (by rfl) ?_ | fail)
    refine WP.mid (fun l w4 => (Agree l [(0, v), (1, .int .i64 0), (2, .int .i64 (n : Nat)), (3, .func (.func g) #[] #[]), (8, .int .i64 (i : Nat)), (9, .int .i64 (j : Nat)), (34, .bool (decide (0 < j) && lt (d3[j]?.getD []) (d3[j - 1]?.getD [])))]) ∧ Still w3 w4) ?_ ?_
    · refine WP.drawn (fun w' => Still w3 w') [(0, true), (1, true), (2, true), (3, true), (4, true), (5, true), (6, true), (7, true), (8, true), (9, true), (10, true), (11, true), (12, true), (13, true), (14, false), (15, true), (16, true)] (by kernel_rfl) mixed ?_
      intro w4 hs4
      repeat' (first | refine WS.q rfl (q_s (by rfl)) (by first | rfl | assumption) ?_ | refine WS.q rfl (q_len (by rfl)) (by first | rfl | assumption) ?_ | refine WS.q rfl (q_add (by rfl) (by rfl) (by unfold InI; omega)) (by first | rfl | assumption) ?_ | refine WS.q rfl (q_sub (by rfl) (by rfl) (by unfold InI; omega)) (by first | rfl | assumption) ?_ | refine WS.q rfl (q_pass (by rfl)) (by first | rfl | assumption) ?_ | refine WS.nil ?_ | fail)
      refine WS.splitD (t := 21) (by rfl) (fun hj => ?_) (fun hj => ?_)
      · have hlj : j < d3.length := by omega
        have hlj1 : j - 1 < d3.length := by omega
        repeat' (first | refine WS.q rfl (q_s (by rfl)) (by first | rfl | assumption) ?_ | refine WS.q rfl (q_len (by rfl)) (by first | rfl | assumption) ?_ | refine WS.q rfl (q_add (by rfl) (by rfl) (by unfold InI; omega)) (by first | rfl | assumption) ?_ | refine WS.q rfl (q_sub (by rfl) (by rfl) (by unfold InI; omega)) (by first | rfl | assumption) ?_ | refine WS.q rfl (q_pass (by rfl)) (by first | rfl | assumption) ?_ | refine WS.nil ?_ | fail)
        refine WS.ixload (j := j) rfl rfl (hR3.still IS.stable hs4) (List.getElem?_eq_getElem hlj) (fun w' hw' => fun k _ _ => by rw [hw'.heap, hs4.heap]) hs4 ?_
        intro p1 u1 hu1
        repeat' (first | refine WS.q rfl (q_s (by rfl)) (by first | rfl | assumption) ?_ | refine WS.q rfl (q_len (by rfl)) (by first | rfl | assumption) ?_ | refine WS.q rfl (q_add (by rfl) (by rfl) (by unfold InI; omega)) (by first | rfl | assumption) ?_ | refine WS.q rfl (q_sub (by rfl) (by rfl) (by unfold InI; omega)) (by first | rfl | assumption) ?_ | refine WS.q rfl (q_pass (by rfl)) (by first | rfl | assumption) ?_ | refine WS.nil ?_ | fail)
        refine WS.ixload (j := j - 1) rfl rfl (hR3.still IS.stable hs4) (List.getElem?_eq_getElem hlj1) (fun w' hw' => fun k _ _ => by rw [hw'.heap, hs4.heap]) hs4 ?_
        intro p2 u2 hu2
        refine WS.op rfl (o_callV (f := g) (fst := []) (cap := []) (by rfl) (vs := [u1, u2]) (hcf hu1 hu2) ?_)
        rintro _ w5 ⟨rfl, hs5⟩
        have hs35 := hs4.trans hs5
        refine ⟨hs35, ?_⟩
        repeat' (first | refine WS.q rfl (q_s (by rfl)) (by first | rfl | assumption) ?_ | refine WS.q rfl (q_len (by rfl)) (by first | rfl | assumption) ?_ | refine WS.q rfl (q_add (by rfl) (by rfl) (by unfold InI; omega)) (by first | rfl | assumption) ?_ | refine WS.q rfl (q_sub (by rfl) (by rfl) (by unfold InI; omega)) (by first | rfl | assumption) ?_ | refine WS.q rfl (q_pass (by rfl)) (by first | rfl | assumption) ?_ | refine WS.nil ?_ | fail)
        refine thenN ?_
        refine ⟨⟨rfl, rfl, rfl, rfl, rfl, rfl, ?_, trivial⟩, hs35⟩
        show some (Value.bool (decide (cf d3[j] d3[j - 1] < 0))) = some (Value.bool (decide (0 < j) && lt (d3[j]?.getD []) (d3[j - 1]?.getD [])))
        rw [List.getElem?_eq_getElem hlj, List.getElem?_eq_getElem hlj1, decide_eq_true (show 0 < j by omega), Bool.true_and, hltd]
        rfl
      · repeat' (first | refine WS.q rfl (q_s (by rfl)) (by first | rfl | assumption) ?_ | refine WS.q rfl (q_len (by rfl)) (by first | rfl | assumption) ?_ | refine WS.q rfl (q_add (by rfl) (by rfl) (by unfold InI; omega)) (by first | rfl | assumption) ?_ | refine WS.q rfl (q_sub (by rfl) (by rfl) (by unfold InI; omega)) (by first | rfl | assumption) ?_ | refine WS.q rfl (q_pass (by rfl)) (by first | rfl | assumption) ?_ | refine WS.nil ?_ | fail)
        refine WS.op rfl (OpW.pass (by rfl) ⟨hs4, ?_⟩)
        repeat' (first | refine WS.q rfl (q_s (by rfl)) (by first | rfl | assumption) ?_ | refine WS.q rfl (q_len (by rfl)) (by first | rfl | assumption) ?_ | refine WS.q rfl (q_add (by rfl) (by rfl) (by unfold InI; omega)) (by first | rfl | assumption) ?_ | refine WS.q rfl (q_sub (by rfl) (by rfl) (by unfold InI; omega)) (by first | rfl | assumption) ?_ | refine WS.q rfl (q_pass (by rfl)) (by first | rfl | assumption) ?_ | refine WS.nil ?_ | fail)
        refine thenN ?_
        refine ⟨⟨rfl, rfl, rfl, rfl, rfl, rfl, ?_, trivial⟩, hs4⟩
        show some (Value.bool false) = some (Value.bool (decide (0 < j) && _))
        rw [decide_eq_false (show ¬ 0 < j by omega), Bool.false_and]
    rintro l4 w4 ⟨hag, hs4⟩
    refine WP.frame _ hag ?_
    clear hag
    have o4 := o3.chg (Chg.of_still hs4) (by omega)
    repeat' (first | refine WL.step (o_s (by rfl) ?_) | refine WL.step (o_len (by rfl) ?_) | refine WL.step (o_add (by rfl) (by rfl) (by unfold InI; omega) ?_) | refine WL.step (o_sub (by rfl) (by rfl) (by unfold InI; omega) ?_) | refine WL.step (OpW.pass (by rfl) ?_) | refine WL.nil ?_ | refine thenN ?_ | refine WP.region ?_ | refine WP.seq ?_ | refine WP.block ?_ | refine thenR ?_ | refine thenX ?_ | refine blkN ?_ | refine blkHit ?_ | refine blkR ?_ | refine blkMiss (by rfl) ?_ | refine WP.ret ?_ | refine WP.exit ?_ | refine WP.skip ?_ | refine WP.label ?_ | refine WP.condT (by rfl) ?_ | refine WP.condF (by rfl) ?_ | fail)
    refine WP.cond (by rfl) (fun hb => ?_) (fun hb => ?_)
    · rw [Bool.and_eq_true, decide_eq_true_eq] at hb
      obtain ⟨j', rfl⟩ : ∃ j', j = j' + 1 := ⟨j - 1, by omega⟩
      rw [Nat.add_sub_cancel] at hb
      have hl1 : j' + 1 < vs3.length := by omega
      have hl0 : j' < vs3.length := by omega
      have hm1 : j' + 1 < d3.length := by omega
      have hm0 : j' < d3.length := by omega
      obtain ⟨g0, c0, hv0, hg1, hg2, hcell0, hfz0, hob⟩ := o4.own.cell (i := j') (List.getElem?_eq_getElem hl0)
      subst hv0
      repeat' (first | refine WL.step (o_s (by rfl) ?_) | refine WL.step (o_len (by rfl) ?_) | refine WL.step (o_add (by rfl) (by rfl) (by unfold InI; omega) ?_) | refine WL.step (o_sub (by rfl) (by rfl) (by unfold InI; omega) ?_) | refine WL.step (OpW.pass (by rfl) ?_) | refine WL.nil ?_ | refine thenN ?_ | refine WP.region ?_ | refine WP.seq ?_ | refine WP.block ?_ | refine thenR ?_ | refine thenX ?_ | refine blkN ?_ | refine blkHit ?_ | refine blkR ?_ | refine blkMiss (by rfl) ?_ | refine WP.ret ?_ | refine WP.exit ?_ | refine WP.skip ?_ | refine WP.label ?_ | refine WP.condT (by rfl) ?_ | refine WP.condF (by rfl) ?_ | fail)
      obtain ⟨u1, hu1⟩ : ∃ u1, vs3[j'] = u1 := ⟨_, rfl⟩
      obtain ⟨u2, hu2⟩ : ∃ u2, vs3[j' + 1] = u2 := ⟨_, rfl⟩
      refine WP.forkedL (fun w' => w'.cell? ⟨g0, j', none⟩ = some u1) [17] (.q 0 (.q 1 (.q 2 (.q 3 (.q 4 (.q 5 (.q 6 (.q 7 (.q 8 (.q 9 (.q 10 (.q 11 (.q 12 (.o 13 (.q 14 (.o 15 (.q 16 (.o 17 .nil)))))))))))))))))) (by kernel_rfl) mixed ?_
      intro w5 hs5
      have o5 := o4.chg (Chg.of_still hs5) (by omega)
      have hz5 := hs5.size
      have hS5 : w5.cell? ⟨g0, j', none⟩ = some u1 := by
        obtain ⟨ga, ca, hva, _, _, hcella, _, _⟩ := o5.own.cell (i := j') (List.getElem?_eq_getElem hl0)
        simp only [Value.slice.injEq, Option.some.injEq, Addr.mk.injEq] at hva
        obtain ⟨⟨rfl, _⟩, _, rfl⟩ := hva
        rw [hcella, hu1]
      have hone1 : u1.oneCell' = true := by rw [← hu1]; exact o5.ones _ (List.getElem_mem hl0)
      have hone2 : u2.oneCell' = true := by rw [← hu2]; exact o5.ones _ (List.getElem_mem hl1)
      repeat' (first | refine WV.q rfl (q_s (by rfl)) hS5 ?_ | refine WV.q rfl (q_sub (by rfl) (by rfl) (by unfold InI; omega)) hS5 ?_)
      have esub : ((j' + 1 : Nat) : Int) - 1 = ((j' : Nat) : Int) := by omega
      rw [esub]
      refine WV.q rfl (q_ix (i := ((j' : Nat) : Int)) (by rfl) (by rfl) (by omega) (by omega)) hS5 ?_
      rw [Nat.zero_add, Int.toNat_natCast]
      refine WV.q rfl (q_load (by rfl) (fun w' h => h)) hS5 ?_
      repeat' (first | refine WV.q rfl (q_s (by rfl)) hS5 ?_)
      refine WV.q rfl (q_ix (i := ((j' + 1 : Nat) : Int)) (by rfl) (by rfl) (by omega) (by omega)) hS5 ?_
      rw [Nat.zero_add, Int.toNat_natCast]
      obtain ⟨ga, ca, hva, _, _, hcella, hfza, _⟩ := o5.own.cell (i := j' + 1) (List.getElem?_eq_getElem hl1)
      simp only [Value.slice.injEq, Option.some.injEq, Addr.mk.injEq] at hva
      obtain ⟨⟨rfl, _⟩, _, rfl⟩ := hva
      rw [hu2] at hcella
      refine WV.o rfl (o_load (by rfl) hcella ⟨hS5, ?_⟩)
      refine WV.q rfl (q_ix (i := ((j' + 1 : Nat) : Int)) (by rfl) (by rfl) (by omega) (by omega)) hS5 ?_
      rw [Nat.zero_add, Int.toNat_natCast]
      refine WV.o rfl (o_store (by rfl) (by rfl) hcella hfza ?_ hone1)
      have own6 := Own.setCell o5.own (j' + 1) u1
      have hbut6 := But.setCell w5 g0 (j' + 1) u1
      obtain ⟨w6, hw6⟩ : ∃ w6, w5.setCell ⟨g0, j' + 1, none⟩ u1 = w6 := ⟨_, rfl⟩
      rw [hw6] at own6 hbut6 ⊢
      obtain ⟨gb, cb', hvb, _, _, hcellb, hfzb, _⟩ := own6.cell (i := j') (u := u1) (by rw [List.getElem?_set_ne (by omega), List.getElem?_eq_getElem hl0, hu1])
      simp only [Value.slice.injEq, Option.some.injEq, Addr.mk.injEq] at hvb
      obtain ⟨⟨rfl, _⟩, _, rfl⟩ := hvb
      refine ⟨hcellb, ?_⟩
      refine WV.q rfl (q_ix (i := ((j' : Nat) : Int)) (by rfl) (by rfl) (by omega) (by omega)) hcellb ?_
      rw [Nat.zero_add, Int.toNat_natCast]
      refine WV.late rfl (o_store (by rfl) (by rfl) hcellb hfzb ?_ hone2)
      have own7 := Own.setCell own6 j' u2
      have hbut7 := But.setCell w6 g0 j' u2
      obtain ⟨w7, hw7⟩ : ∃ w7, w6.setCell ⟨g0, j', none⟩ u2 = w7 := ⟨_, rfl⟩
      rw [hw7] at own7 hbut7 ⊢
      refine WV.nil ?_
      have o7 := o5.swap (w' := w7) (by rw [List.getElem?_eq_getElem hl0, hu1]) (by rw [List.getElem?_eq_getElem hl1, hu2]) (List.getElem?_eq_getElem hm0) (List.getElem?_eq_getElem hm1) own7 (by rw [hbut7.size, hbut6.size]) (fun k hk => by
        have hne : k ≠ g0 := fun e => hk (by rw [hob, e])
        rw [hbut7.block k hne, hbut6.block k hne])
      have hsw : swapAt d3 j' = (d3.set (j' + 1) d3[j']).set j' d3[j' + 1] := by
        unfold swapAt
        rw [List.getElem?_eq_getElem hm0, List.getElem?_eq_getElem hm1]
        rfl
      rw [← hsw] at o7
      have hso7 : Sorted lo (.slice (some ⟨g0, 0, none⟩) vs3.length c0) w w7 := (hso3.trans (Sorted.of_still (hs4.trans hs5))).trans ⟨(hbut6.below hg1).trans (hbut7.below hg1), by rw [hbut7.size, hbut6.size], fun k hk => by
        have hne : k ≠ g0 := fun e => hk (by rw [hob, e])
        rw [hbut7.block k hne, hbut6.block k hne]⟩
      repeat' (first | refine WL.step (o_s (by rfl) ?_) | refine WL.step (o_len (by rfl) ?_) | refine WL.step (o_add (by rfl) (by rfl) (by unfold InI; omega) ?_) | refine WL.step (o_sub (by rfl) (by rfl) (by unfold InI; omega) ?_) | refine WL.step (OpW.pass (by rfl) ?_) | refine WL.nil ?_ | refine thenN ?_ | refine WP.region ?_ | refine WP.seq ?_ | refine WP.block ?_ | refine thenR ?_ | refine thenX ?_ | refine blkN ?_ | refine blkHit ?_ | refine blkR ?_ | refine blkMiss (by rfl) ?_ | refine WP.ret ?_ | refine WP.exit ?_ | refine WP.skip ?_ | refine WP.label ?_ | refine WP.condT (by rfl) ?_ | refine WP.condF (by rfl) ?_ | fail)
      refine ⟨(j', swapAt d3 j'), ⟨rfl, rfl, rfl, rfl, rfl, (by first | rfl | (show some (Value.int .i64 _) = some (Value.int .i64 _); refine congrArg some (congrArg (Value.int IntKind.i64) ?_); omega)), trivial⟩, ⟨by dsimp only; omega, by dsimp only; rw [swapAt_length, hd3], ?_, ⟨_, o7⟩, hso7⟩, by dsimp only; omega⟩
      dsimp only
      rw [hsk, sinkL, if_pos hb.2]
    · have hsk' : sinkL lt i d = d3 := by
        rw [hsk]
        cases j with
        | zero => rfl
        | succ j' =>
          rw [sinkL, if_neg]
          intro hh
          rw [Nat.add_sub_cancel, hh, decide_eq_true (show 0 < j' + 1 by omega)] at hb
          cases hb
      rw [hsk'] at hins'
      repeat' (first | refine WL.step (o_s (by rfl) ?_) | refine WL.step (o_len (by rfl) ?_) | refine WL.step (o_add (by rfl) (by rfl) (by unfold InI; omega) ?_) | refine WL.step (o_sub (by rfl) (by rfl) (by unfold InI; omega) ?_) | refine WL.step (OpW.pass (by rfl) ?_) | refine WL.nil ?_ | refine thenN ?_ | refine WP.region ?_ | refine WP.seq ?_ | refine WP.block ?_ | refine thenR ?_ | refine thenX ?_ | refine blkN ?_ | refine blkHit ?_ | refine blkR ?_ | refine blkMiss (by rfl) ?_ | refine WP.ret ?_ | refine WP.exit ?_ | refine WP.skip ?_ | refine WP.label ?_ | refine WP.condT (by rfl) ?_ | refine WP.condF (by rfl) ?_ | fail)
      exact ⟨(i + 1, d3), ⟨rfl, rfl, rfl, rfl, (by first | rfl | (show some (Value.int .i64 _) = some (Value.int .i64 _); refine congrArg some (congrArg (Value.int IntKind.i64) ?_); omega)), trivial⟩, ⟨by dsimp only; omega, hd3, hins', ⟨vs3, o4⟩, hso3.trans (Sorted.of_still hs4)⟩, by dsimp only; omega⟩
  · rename_i hge
    rw [show n - i = 0 from by omega, insGo] at hins
    repeat' (first | refine WL.step (o_s (by rfl) ?_) | refine WL.step (o_len (by rfl) ?_) | refine WL.step (o_add (by rfl) (by rfl) (by unfold InI; omega) ?_) | refine WL.step (o_sub (by rfl) (by rfl) (by unfold InI; omega) ?_) | refine WL.step (OpW.pass (by rfl) ?_) | refine WL.nil ?_ | refine thenN ?_ | refine WP.region ?_ | refine WP.seq ?_ | refine WP.block ?_ | refine thenR ?_ | refine thenX ?_ | refine blkN ?_ | refine blkHit ?_ | refine blkR ?_ | refine blkMiss (by rfl) ?_ | refine WP.ret ?_ | refine WP.exit ?_ | refine WP.skip ?_ | refine WP.label ?_ | refine WP.condT (by rfl) ?_ | refine WP.condF (by rfl) ?_ | fail)
    refine ⟨_, ret0 rfl, rfl, ⟨vs2, by rw [hins]; exact o2⟩, hso2⟩
end Go.Proofs
