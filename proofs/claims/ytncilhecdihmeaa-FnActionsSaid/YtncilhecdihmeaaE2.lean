/- slices.insertionSortCmpFunc at [][]int64, whatever the comparison. -/
import Derived.Test.YtncilhecdihmeaaE1
import Derived.Test.YtncilhecdihmeaaA26
import Derived.Test.YtncilhecdihmeaaA14
import Derived.Test.YtncilhecdihmeaaD8
import Derived.Test.YtncilhecdihmeaaA5
import Derived.Test.YtncilhecdihmeaaA29
set_option maxRecDepth 8000
namespace Go.Rk
open Go.Fw Go.Proofs
def swapAt (d : List (List Int)) (j : Nat) : List (List Int) := (d.set (j + 1) (d[j]?.getD [])).set j (d[j + 1]?.getD [])
def sinkL (lt : List Int → List Int → Bool) : Nat → List (List Int) → List (List Int)
  | 0, d => d
  | j + 1, d => if lt (d[j + 1]?.getD []) (d[j]?.getD []) = true then sinkL lt j (swapAt d j) else d
def insGo (lt : List Int → List Int → Bool) : Nat → Nat → List (List Int) → List (List Int)
  | 0, _, d => d
  | f + 1, i, d => insGo lt f (i + 1) (sinkL lt i d)
def insSort (lt : List Int → List Int → Bool) (d : List (List Int)) : List (List Int) := insGo lt (d.length - 1) 1 d
theorem swapAt_length (d : List (List Int)) (j : Nat) : (swapAt d j).length = d.length := by simp [swapAt]
theorem sinkL_length (lt : List Int → List Int → Bool) (j : Nat) (d : List (List Int)) : (sinkL lt j d).length = d.length := by
  induction j generalizing d with
  | zero => rfl
  | succ j ih => rw [sinkL]; split; rw [ih, swapAt_length]; rfl
theorem insGo_length (lt : List Int → List Int → Bool) (f i : Nat) (d : List (List Int)) : (insGo lt f i d).length = d.length := by
  induction f generalizing i d with
  | zero => rfl
  | succ f ih => rw [insGo, ih, sinkL_length]
theorem insSort_length (lt : List Int → List Int → Bool) (d : List (List Int)) : (insSort lt d).length = d.length := insGo_length _ _ _ _
theorem swapAt_perm (d : List (List Int)) {j : Nat} (h : j + 1 < d.length) : (swapAt d j).Perm d := by
  obtain ⟨x, hx⟩ : ∃ x, d[j] = x := ⟨_, rfl⟩
  obtain ⟨y, hy⟩ : ∃ y, d[j + 1] = y := ⟨_, rfl⟩
  have h1 : d = d.take j ++ x :: y :: d.drop (j + 2) := by
    rw [← hx, ← hy, ← List.drop_eq_getElem_cons (show j + 1 < d.length from h), ← List.drop_eq_getElem_cons (show j < d.length by omega), List.take_append_drop]
  have hl : (d.take j).length = j := by rw [List.length_take]; omega
  have h2 : swapAt d j = d.take j ++ y :: x :: d.drop (j + 2) := by
    unfold swapAt
    rw [List.getElem?_eq_getElem h, List.getElem?_eq_getElem (show j < d.length by omega), hx, hy]
    show (d.set (j + 1) x).set j y = _
    obtain ⟨t, ht⟩ : ∃ t, d.take j = t := ⟨_, rfl⟩
    obtain ⟨r, hr⟩ : ∃ r, d.drop (j + 2) = r := ⟨_, rfl⟩
    rw [ht] at hl
    rw [ht, hr] at h1 ⊢
    rw [h1]
    subst hl
    simp [List.set_append]
  rw [h2]
  exact List.Perm.trans (List.Perm.append_left _ (List.Perm.swap _ _ _)) (by rw [← h1])
theorem sinkL_perm (lt : List Int → List Int → Bool) (j : Nat) (d : List (List Int)) (h : j < d.length) : (sinkL lt j d).Perm d := by
  induction j generalizing d with
  | zero => exact List.Perm.refl _
  | succ j ih =>
    rw [sinkL]
    split
    · exact (ih _ (by rw [swapAt_length]; omega)).trans (swapAt_perm d h)
    · exact List.Perm.refl _
theorem insGo_perm (lt : List Int → List Int → Bool) (f i : Nat) (d : List (List Int)) (h : i + f ≤ d.length) : (insGo lt f i d).Perm d := by
  induction f generalizing i d with
  | zero => exact List.Perm.refl _
  | succ f ih => rw [insGo]; exact (ih _ _ (by rw [sinkL_length]; omega)).trans (sinkL_perm lt i d (by omega))
theorem insSort_perm (lt : List Int → List Int → Bool) (d : List (List Int)) : (insSort lt d).Perm d := by
  cases d with
  | nil => exact List.Perm.refl _
  | cons x d => exact insGo_perm _ _ _ _ (by simp; omega)
end Go.Rk
namespace Go.Fw
open Go Go.RowKit Go.Rk
theorem OwSSv.ones {e e2 lo hi : Nat} {w : World} {v : Value} {vs : List Value} {xss : List (List Int)} (h : OwSSv e e2 lo hi w v vs xss) : ∀ u ∈ vs, u.oneCell' = true := fun u hu => by
  obtain ⟨i, hi', rfl⟩ := List.getElem_of_mem hu
  obtain ⟨_, _, hsh, _⟩ := (h.rows i _ _ (List.getElem?_eq_getElem hi') (List.getElem?_eq_getElem (by rw [← h.len]; exact hi'))).own.shape
  rw [hsh]; rfl
/-- Two neighbours change places. -/
theorem OwSSv.swap {e e2 lo hi j : Nat} {w w' : World} {v : Value} {vs : List Value} {xss : List (List Int)} (h : OwSSv e e2 lo hi w v vs xss) {u1 u2 : Value} {x1 x2 : List Int} (h1 : vs[j]? = some u1) (h2 : vs[j + 1]? = some u2) (g1 : xss[j]? = some x1) (g2 : xss[j + 1]? = some x2)
    (ho : Own lo e w' v ((vs.set (j + 1) u1).set j u2)) (hz : w'.heap.size = w.heap.size) (hs : ∀ k, v.ownBlock ≠ some k → w'.heap[k]? = w.heap[k]?) :
    OwSSv e e2 lo hi w' v ((vs.set (j + 1) u1).set j u2) ((xss.set (j + 1) x1).set j x2) := by
  have l1 := (List.getElem?_eq_some_iff.1 h1).1
  have l2 := (List.getElem?_eq_some_iff.1 h2).1
  have m1 := (List.getElem?_eq_some_iff.1 g1).1
  have m2 := (List.getElem?_eq_some_iff.1 g2).1
  -- where a place's row came from
  obtain ⟨σ, hσ⟩ : ∃ σ : Nat → Nat, σ = fun i => if i = j then j + 1 else if i = j + 1 then j else i := ⟨_, rfl⟩
  have src : ∀ (i : Nat), ((vs.set (j + 1) u1).set j u2)[i]? = vs[σ i]? ∧ ((xss.set (j + 1) x1).set j x2)[i]? = xss[σ i]? := fun i => by
    subst hσ
    dsimp only
    by_cases hi : i = j
    · subst hi
      rw [if_pos rfl, List.getElem?_set_self (by rw [List.length_set]; exact l1), List.getElem?_set_self (by rw [List.length_set]; exact m1), h2, g2]
      exact ⟨rfl, rfl⟩
    · rw [if_neg hi, List.getElem?_set_ne (Ne.symm hi), List.getElem?_set_ne (Ne.symm hi)]
      by_cases hi2 : i = j + 1
      · subst hi2
        rw [if_pos rfl, List.getElem?_set_self l2, List.getElem?_set_self m2, h1, g1]
        exact ⟨rfl, rfl⟩
      · rw [if_neg hi2, List.getElem?_set_ne (Ne.symm hi2), List.getElem?_set_ne (Ne.symm hi2)]
        exact ⟨rfl, rfl⟩
  have inj : ∀ i i', i ≠ i' → σ i ≠ σ i' := fun i i' hne => by
    subst hσ
    dsimp only
    split <;> split <;> (try split) <;> (try split) <;> omega
  refine ⟨ho, h.lt, by rw [hz]; exact h.hi_le, by simp [h.len], fun i u xs hu hx => ?_, fun i i' a b hne ha hb => ?_, h.ne⟩
  · rw [(src i).1] at hu
    rw [(src i).2] at hx
    have hr := h.rows _ u xs hu hx
    exact ⟨hr.own.keep fun k hk => hs k fun e' => h.own.ne_block hr.own h.ne e' hk, hr.lt, by rw [hz]; exact hr.hi_le⟩
  · rw [(src i).1] at ha
    rw [(src i').1] at hb
    exact h.apart _ _ a b (inj i i' hne) ha hb
end Go.Fw
namespace Go.Proofs
open Go Go.Fw Go.RowKit Go.Rk
/-- What is asked of a comparison of rows. -/
def CmpRows (g : FuncId) (cf : List Int → List Int → Int) : Prop :=
  ∀ {lo hi lo' hi' : Nat} {w : World} {v v' : Value} {xs ys : List Int}, IS lo hi w v xs → IS lo' hi' w v' ys → Does Try.prog g [v, v'] w fun r w' => r = .int .i64 (cf xs ys) ∧ Still w w'
/-- What a sort leaves: the slice's own row alone has turned. -/
structure Sorted (lo : Nat) (v : Value) (w w' : World) : Prop where
  bel : Below lo w w'
  size : w'.heap.size = w.heap.size
  out : ∀ k, v.ownBlock ≠ some k → w'.heap[k]? = w.heap[k]?
theorem Sorted.refl (lo : Nat) (v : Value) (w : World) : Sorted lo v w w := ⟨Below.refl _ _, rfl, fun _ _ => rfl⟩
theorem Sorted.trans {lo : Nat} {v : Value} {a b c : World} (h : Sorted lo v a b) (h' : Sorted lo v b c) : Sorted lo v a c := ⟨h.bel.trans h'.bel, h'.size.trans h.size, fun k hk => (h'.out k hk).trans (h.out k hk)⟩
theorem Sorted.of_still {lo : Nat} {v : Value} {a b : World} (h : Still a b) : Sorted lo v a b := ⟨h.below _, h.size, fun k _ => by rw [h.heap]⟩
set_option maxHeartbeats 2000000 in
theorem insertion_any {g : FuncId} [FuncTy Try.prog g] {cf : List Int → List Int → Int} (hcf : CmpRows g cf) {lo hi : Nat} {w : World} {v : Value} {vs : List Value} {xss : List (List Int)} (h : OwSSv 22 2 lo hi w v vs xss) (hn : xss.length ≤ 1000000) :
    Does Try.prog 97 [v, .int .i64 0, .int .i64 (xss.length : Nat), .func (.func g) #[] #[]] w fun r w' => r = .tuple #[] ∧ (∃ vs', OwSSv 22 2 lo hi w' v vs' (insSort (fun x y => decide (cf x y < 0)) xss)) ∧ Sorted lo v w w' := by
  obtain ⟨lt, hlt⟩ : ∃ lt : List Int → List Int → Bool, (fun x y => decide (cf x y < 0)) = lt := ⟨_, rfl⟩
  rw [hlt]
  have hltd : ∀ x y, decide (cf x y < 0) = lt x y := fun x y => by rw [← hlt]
  refine Does.enter Try.func97 Try.ntmps97 rfl (by rfl) ?_
  repeat' (first|refine X.O ?_|refine X.A ?_|refine X.B ?_|refine X.C ?_|refine X.D ?_|refine X.E ?_|refine X.F ?_|refine X.G ?_|refine X.H ?_|refine X.I ?_|fail)
  obtain ⟨n, hnn⟩ : ∃ n, xss.length = n := ⟨_, rfl⟩
  rw [hnn] at hn ⊢
  refine WP.loop (fun (s : Nat × List (List Int)) => [(0, v), (1, .int .i64 0), (2, .int .i64 (n : Nat)), (3, .func (.func g) #[] #[]), (8, .int .i64 (s.1 : Nat))])
    (fun s w2 => 1 ≤ s.1 ∧ s.2.length = n ∧ insSort lt xss = insGo lt (n - s.1) s.1 s.2 ∧ (∃ vs', OwSSv 22 2 lo hi w2 v vs' s.2) ∧ Sorted lo v w w2)
    (fun s => n - s.1) (1, xss) ⟨rfl, rfl, rfl, rfl, rfl, trivial⟩ ⟨by dsimp only; omega, hnn, by unfold insSort; rw [hnn], ⟨vs, h⟩, Sorted.refl _ _ _⟩ ?_
  rintro ⟨i, d⟩ w2 ⟨hi1, hdl, hins, ⟨vs2, o2⟩, hso2⟩
  dsimp only at hi1 hdl hins o2 ⊢
  repeat' (first|refine X.O ?_|refine X.A ?_|refine X.B ?_|refine X.C ?_|refine X.D ?_|refine X.E ?_|refine X.F ?_|refine X.G ?_|refine X.H ?_|refine X.I ?_|fail)
  first|refine X.J (fun _ => ?_) (fun _ => ?_)|refine X.L (fun _ => ?_) (fun _ => ?_)|refine X.M (fun _ => ?_) (fun _ => ?_)|refine X.R (fun _ => ?_) (fun _ => ?_)|fail
  · rename_i hlti
    have hli : i < n := by omega
    have hins' : insSort lt xss = insGo lt (n - (i + 1)) (i + 1) (sinkL lt i d) := by
      rw [hins, show n - i = (n - (i + 1)) + 1 from by omega, insGo]
    repeat' (first|refine X.O ?_|refine X.A ?_|refine X.B ?_|refine X.C ?_|refine X.D ?_|refine X.E ?_|refine X.F ?_|refine X.G ?_|refine X.H ?_|refine X.I ?_|fail)
    refine WP.loop (fun (s : Nat × List (List Int)) => [(0, v), (1, .int .i64 0), (2, .int .i64 (n : Nat)), (3, .func (.func g) #[] #[]), (8, .int .i64 (i : Nat)), (9, .int .i64 (s.1 : Nat))])
      (fun s w3 => s.1 ≤ i ∧ s.2.length = n ∧ sinkL lt i d = sinkL lt s.1 s.2 ∧ (∃ vs', OwSSv 22 2 lo hi w3 v vs' s.2) ∧ Sorted lo v w w3)
      (fun s => s.1) (i, d) ⟨rfl, rfl, rfl, rfl, rfl, rfl, trivial⟩ ⟨Nat.le_refl _, hdl, rfl, ⟨vs2, o2⟩, hso2⟩ ?_
    rintro ⟨j, d3⟩ w3 ⟨hj1, hd3, hsk, ⟨vs3, o3⟩, hso3⟩
    dsimp only at hj1 hd3 hsk o3 ⊢
    have hvl3 : vs3.length = n := by rw [o3.len, hd3]
    have hR3 := o3.rd
    obtain ⟨av, cv, hv⟩ := hR3.shape
    rw [hd3] at hv
    repeat' (first|refine X.A ?_|refine X.B ?_|refine X.C ?_|refine X.D ?_|refine X.E ?_|refine WL.nil ?_|refine thenN ?_|refine WP.seq ?_|refine WP.block ?_|refine thenR ?_|refine thenX ?_|refine blkN ?_|refine X.F ?_|refine blkR ?_|refine X.G ?_|refine WP.ret ?_|refine WP.exit ?_|refine WP.skip ?_|refine WP.label ?_|refine X.H ?_|refine X.I ?_|fail)
    refine WP.mid (fun l w4 => (Agree l [(0, v), (1, .int .i64 0), (2, .int .i64 (n : Nat)), (3, .func (.func g) #[] #[]), (8, .int .i64 (i : Nat)), (9, .int .i64 (j : Nat)), (34, .bool (decide (0 < j) && lt (d3[j]?.getD []) (d3[j - 1]?.getD [])))]) ∧ Still w3 w4) ?_ ?_
    · refine WP.drawn (fun w' => Still w3 w') [(0, true), (1, true), (2, true), (3, true), (4, true), (5, true), (6, true), (7, true), (8, true), (9, true), (10, true), (11, true), (12, true), (13, true), (14, false), (15, true), (16, true)] (by kernel_rfl) mixed ?_
      intro w4 hs4
      repeat' (first|refine X.U rfl ?_|refine X.V rfl ?_|refine X.W rfl ?_|refine X.Y rfl ?_|refine X.Z rfl ?_|refine WS.nil ?_|fail)
      refine WS.splitD (t := 21) (by rfl) (fun hj => ?_) (fun hj => ?_)
      · have hlj : j < d3.length := by omega
        have hlj1 : j - 1 < d3.length := by omega
        repeat' (first|refine X.U rfl ?_|refine X.V rfl ?_|refine X.W rfl ?_|refine X.Y rfl ?_|refine X.Z rfl ?_|refine WS.nil ?_|fail)
        refine WS.ixload (j := j) rfl rfl (hR3.still IS.stable hs4) (List.getElem?_eq_getElem hlj) (fun w' hw' => fun k _ _ => by rw [hw'.heap, hs4.heap]) hs4 ?_
        intro p1 u1 hu1
        repeat' (first|refine X.U rfl ?_|refine X.V rfl ?_|refine X.W rfl ?_|refine X.Y rfl ?_|refine X.Z rfl ?_|refine WS.nil ?_|fail)
        refine WS.ixload (j := j - 1) rfl rfl (hR3.still IS.stable hs4) (List.getElem?_eq_getElem hlj1) (fun w' hw' => fun k _ _ => by rw [hw'.heap, hs4.heap]) hs4 ?_
        intro p2 u2 hu2
        refine WS.op rfl (o_callV (f := g) (fst := []) (cap := []) (by rfl) (vs := [u1, u2]) (hcf hu1 hu2) ?_)
        rintro _ w5 ⟨rfl, hs5⟩
        have hs35 := hs4.trans hs5
        refine ⟨hs35, ?_⟩
        repeat' (first|refine X.U rfl ?_|refine X.V rfl ?_|refine X.W rfl ?_|refine X.Y rfl ?_|refine X.Z rfl ?_|refine WS.nil ?_|fail)
        refine thenN ?_
        refine ⟨⟨rfl, rfl, rfl, rfl, rfl, rfl, ?_, trivial⟩, hs35⟩
        show some (Value.bool (decide (cf d3[j] d3[j - 1] < 0))) = some (Value.bool (decide (0 < j) && lt (d3[j]?.getD []) (d3[j - 1]?.getD [])))
        rw [List.getElem?_eq_getElem hlj, List.getElem?_eq_getElem hlj1, decide_eq_true (show 0 < j by omega), Bool.true_and, hltd]
        rfl
      · repeat' (first|refine X.U rfl ?_|refine X.V rfl ?_|refine X.W rfl ?_|refine X.Y rfl ?_|refine X.Z rfl ?_|refine WS.nil ?_|fail)
        refine WS.op rfl (OpW.pass (by rfl) ⟨hs4, ?_⟩)
        repeat' (first|refine X.U rfl ?_|refine X.V rfl ?_|refine X.W rfl ?_|refine X.Y rfl ?_|refine X.Z rfl ?_|refine WS.nil ?_|fail)
        refine thenN ?_
        refine ⟨⟨rfl, rfl, rfl, rfl, rfl, rfl, ?_, trivial⟩, hs4⟩
        show some (Value.bool false) = some (Value.bool (decide (0 < j) && _))
        rw [decide_eq_false (show ¬ 0 < j by omega), Bool.false_and]
    rintro l4 w4 ⟨hag, hs4⟩
    refine WP.frame _ hag ?_
    clear hag
    have o4 := o3.chg (Chg.of_still hs4) (by omega)
    repeat' (first|refine X.O ?_|refine X.A ?_|refine X.B ?_|refine X.C ?_|refine X.D ?_|refine X.E ?_|refine X.F ?_|refine X.G ?_|refine X.H ?_|refine X.I ?_|fail)
    refine WP.cond (by rfl) (fun hb => ?_) (fun hb => ?_)
    · rw [Bool.and_eq_true, decide_eq_true_eq] at hb
      obtain ⟨j', rfl⟩ : ∃ j', j = j' + 1 := ⟨j - 1, by omega⟩
      rw [Nat.add_sub_cancel] at hb
      have hl1 : j' + 1 < vs3.length := by omega
      have hl0 : j' < vs3.length := by omega
      have hm1 : j' + 1 < d3.length := by omega
      have hm0 : j' < d3.length := by omega
      obtain ⟨g0, c0, hv0, hg1, hg2, hcell0, hfz0, hob⟩ := o4.own.cell (i := j') (List.getElem?_eq_getElem hl0)
      subst hv0
      repeat' (first|refine X.O ?_|refine X.A ?_|refine X.B ?_|refine X.C ?_|refine X.D ?_|refine X.E ?_|refine X.F ?_|refine X.G ?_|refine X.H ?_|refine X.I ?_|fail)
      obtain ⟨u1, hu1⟩ : ∃ u1, vs3[j'] = u1 := ⟨_, rfl⟩
      obtain ⟨u2, hu2⟩ : ∃ u2, vs3[j' + 1] = u2 := ⟨_, rfl⟩
      refine WP.forkedL (fun w' => w'.cell? ⟨g0, j', none⟩ = some u1) [17] (.q 0 (.q 1 (.q 2 (.q 3 (.q 4 (.q 5 (.q 6 (.q 7 (.q 8 (.q 9 (.q 10 (.q 11 (.q 12 (.o 13 (.q 14 (.o 15 (.q 16 (.o 17 .nil)))))))))))))))))) (by kernel_rfl) mixed ?_
      intro w5 hs5
      have o5 := o4.chg (Chg.of_still hs5) (by omega)
      have hz5 := hs5.size
      have hS5 : w5.cell? ⟨g0, j', none⟩ = some u1 := by
        obtain ⟨ga, ca, hva, _, _, hcella, _, _⟩ := o5.own.cell (i := j') (List.getElem?_eq_getElem hl0)
        simp only [Value.slice.injEq, Option.some.injEq, Addr.mk.injEq] at hva
        obtain ⟨⟨rfl, _⟩, _, rfl⟩ := hva
        rw [hcella, hu1]
      have hone1 : u1.oneCell' = true := by rw [← hu1]; exact o5.ones _ (List.getElem_mem hl0)
      have hone2 : u2.oneCell' = true := by rw [← hu2]; exact o5.ones _ (List.getElem_mem hl1)
      repeat' (first | refine WV.q rfl (q_s (by rfl)) hS5 ?_ | refine WV.q rfl (q_sub (by rfl) (by rfl) (by unfold InI; omega)) hS5 ?_)
      have esub : ((j' + 1 : Nat) : Int) - 1 = ((j' : Nat) : Int) := by omega
      rw [esub]
      refine WV.q rfl (q_ix (i := ((j' : Nat) : Int)) (by rfl) (by rfl) (by omega) (by omega)) hS5 ?_
      rw [Nat.zero_add, Int.toNat_natCast]
      refine WV.q rfl (q_load (by rfl) (fun w' h => h)) hS5 ?_
      repeat' (first | refine WV.q rfl (q_s (by rfl)) hS5 ?_)
      refine WV.q rfl (q_ix (i := ((j' + 1 : Nat) : Int)) (by rfl) (by rfl) (by omega) (by omega)) hS5 ?_
      rw [Nat.zero_add, Int.toNat_natCast]
      obtain ⟨ga, ca, hva, _, _, hcella, hfza, _⟩ := o5.own.cell (i := j' + 1) (List.getElem?_eq_getElem hl1)
      simp only [Value.slice.injEq, Option.some.injEq, Addr.mk.injEq] at hva
      obtain ⟨⟨rfl, _⟩, _, rfl⟩ := hva
      rw [hu2] at hcella
      refine WV.o rfl (o_load (by rfl) hcella ⟨hS5, ?_⟩)
      refine WV.q rfl (q_ix (i := ((j' + 1 : Nat) : Int)) (by rfl) (by rfl) (by omega) (by omega)) hS5 ?_
      rw [Nat.zero_add, Int.toNat_natCast]
      refine WV.o rfl (o_store (by rfl) (by rfl) hcella hfza ?_ hone1)
      have own6 := Own.setCell o5.own (j' + 1) u1
      have hbut6 := But.setCell w5 g0 (j' + 1) u1
      obtain ⟨w6, hw6⟩ : ∃ w6, w5.setCell ⟨g0, j' + 1, none⟩ u1 = w6 := ⟨_, rfl⟩
      rw [hw6] at own6 hbut6 ⊢
      obtain ⟨gb, cb', hvb, _, _, hcellb, hfzb, _⟩ := own6.cell (i := j') (u := u1) (by rw [List.getElem?_set_ne (by omega), List.getElem?_eq_getElem hl0, hu1])
      simp only [Value.slice.injEq, Option.some.injEq, Addr.mk.injEq] at hvb
      obtain ⟨⟨rfl, _⟩, _, rfl⟩ := hvb
      refine ⟨hcellb, ?_⟩
      refine WV.q rfl (q_ix (i := ((j' : Nat) : Int)) (by rfl) (by rfl) (by omega) (by omega)) hcellb ?_
      rw [Nat.zero_add, Int.toNat_natCast]
      refine WV.late rfl (o_store (by rfl) (by rfl) hcellb hfzb ?_ hone2)
      have own7 := Own.setCell own6 j' u2
      have hbut7 := But.setCell w6 g0 j' u2
      obtain ⟨w7, hw7⟩ : ∃ w7, w6.setCell ⟨g0, j', none⟩ u2 = w7 := ⟨_, rfl⟩
      rw [hw7] at own7 hbut7 ⊢
      refine WV.nil ?_
      have o7 := o5.swap (w' := w7) (by rw [List.getElem?_eq_getElem hl0, hu1]) (by rw [List.getElem?_eq_getElem hl1, hu2]) (List.getElem?_eq_getElem hm0) (List.getElem?_eq_getElem hm1) own7 (by rw [hbut7.size, hbut6.size]) (fun k hk => by
        have hne : k ≠ g0 := fun e => hk (by rw [hob, e])
        rw [hbut7.block k hne, hbut6.block k hne])
      have hsw : swapAt d3 j' = (d3.set (j' + 1) d3[j']).set j' d3[j' + 1] := by
        unfold swapAt
        rw [List.getElem?_eq_getElem hm0, List.getElem?_eq_getElem hm1]
        rfl
      rw [← hsw] at o7
      have hso7 : Sorted lo (.slice (some ⟨g0, 0, none⟩) vs3.length c0) w w7 := (hso3.trans (Sorted.of_still (hs4.trans hs5))).trans ⟨(hbut6.below hg1).trans (hbut7.below hg1), by rw [hbut7.size, hbut6.size], fun k hk => by
        have hne : k ≠ g0 := fun e => hk (by rw [hob, e])
        rw [hbut7.block k hne, hbut6.block k hne]⟩
      repeat' (first|refine X.O ?_|refine X.A ?_|refine X.B ?_|refine X.C ?_|refine X.D ?_|refine X.E ?_|refine X.F ?_|refine X.G ?_|refine X.H ?_|refine X.I ?_|fail)
      refine ⟨(j', swapAt d3 j'), ⟨rfl, rfl, rfl, rfl, rfl, (by first|rfl|exact X.T (by omega)), trivial⟩, ⟨by dsimp only; omega, by dsimp only; rw [swapAt_length, hd3], ?_, ⟨_, o7⟩, hso7⟩, by dsimp only; omega⟩
      dsimp only
      rw [hsk, sinkL, if_pos hb.2]
    · have hsk' : sinkL lt i d = d3 := by
        rw [hsk]
        cases j with
        | zero => rfl
        | succ j' =>
          rw [sinkL, if_neg]
          intro hh
          rw [Nat.add_sub_cancel, hh, decide_eq_true (show 0 < j' + 1 by omega)] at hb
          cases hb
      rw [hsk'] at hins'
      repeat' (first|refine X.O ?_|refine X.A ?_|refine X.B ?_|refine X.C ?_|refine X.D ?_|refine X.E ?_|refine X.F ?_|refine X.G ?_|refine X.H ?_|refine X.I ?_|fail)
      exact ⟨(i + 1, d3), ⟨rfl, rfl, rfl, rfl, (by first|rfl|exact X.T (by omega)), trivial⟩, ⟨by dsimp only; omega, hd3, hins', ⟨vs3, o4⟩, hso3.trans (Sorted.of_still hs4)⟩, by dsimp only; omega⟩
  · rename_i hge
    rw [show n - i = 0 from by omega, insGo] at hins
    repeat' (first|refine X.O ?_|refine X.A ?_|refine X.B ?_|refine X.C ?_|refine X.D ?_|refine X.E ?_|refine X.F ?_|refine X.G ?_|refine X.H ?_|refine X.I ?_|fail)
    refine ⟨_, ret0 rfl, rfl, ⟨vs2, by rw [hins]; exact o2⟩, hso2⟩
end Go.Proofs
/- slices.SortFunc and slices.SortStableFunc at [][]int64, for few rows. -/
set_option maxRecDepth 8000
namespace Go.Fw
open Go Go.RowKit Go.Rk
section
variable {P : Program} {N : Nat} {Q : Exit → Fr → World → Prop} {l : Fr} {w : World} {ops : Array Oper} {K : Fr → World → Prop}
variable {d : Nat} {ty : TypeId} {pos : String} {af : Array Edge} {g : Option (Nat × Bool)}
theorem o_indexS {t : TypeId} [h : StrTy P t] {x y : Operand} {s : ByteArray} {kk : IntKind} {i : Int} (hx : ev l x = some (.string s)) (hy : ev l y = some (.int kk i)) (h0 : 0 ≤ i) (h1 : i.toNat < s.size)
    (k : ∀ b : UInt8, K ((d, .int .u8 (b.toNat : Nat)) :: l) w) (hg : wantedL ops l g = some true := by rfl) (hd : Nat.blt d N = true := by rfl) : OpW P N ops Q ⟨some d, .index t x y, ty, pos, af, g⟩ l w K :=
  OpW.val (v := .int .u8 (s[i.toNat].toNat : Nat)) (fun fr ha => by simp [execOp, ha.ev hx, ha.ev hy, Instr.index, asIntOf, run_underlying h.und, h0, h1]) (k _) hg hd
theorem wrap_u8b {a : Int} (h0 : 0 ≤ a) (h1 : a ≤ 255) : IntKind.u8.wrap a = a := by
  simp [IntKind.wrap, IntKind.bits, IntKind.signed]
  omega
end
end Go.Fw
namespace Go.Proofs
open Go Go.Fw Go.RowKit Go.Rk
theorem Len64_any (n : Nat) (hn : n ≤ 255) (w : World) : Does Try.prog 106 [.int .u64 (n : Nat)] w fun r w' => (∃ k : Int, r = .int .i64 k) ∧ w = w' := by
  refine Does.enter Try.func106 Try.ntmps106 rfl (by rfl) ?_
  repeat' (first|refine X.O ?_|refine X.A ?_|refine X.B ?_|refine X.C ?_|refine X.D ?_|refine X.E ?_|refine X.F ?_|refine X.G ?_|refine X.H ?_|refine X.I ?_|fail)
  refine WL.step (o_cmpU (op := .geq) (a := ((n : Nat) : Int)) (b := 4294967296) rfl (by rfl) (by rfl) ?_)
  repeat' (first|refine X.O ?_|refine X.A ?_|refine X.B ?_|refine X.C ?_|refine X.D ?_|refine X.E ?_|refine X.F ?_|refine X.G ?_|refine X.H ?_|refine X.I ?_|fail)
  refine WP.condD (by rfl) (fun hb => absurd hb (by omega)) (fun _ => ?_)
  repeat' (first|refine X.O ?_|refine X.A ?_|refine X.B ?_|refine X.C ?_|refine X.D ?_|refine X.E ?_|refine X.F ?_|refine X.G ?_|refine X.H ?_|refine X.I ?_|fail)
  refine WL.step (o_cmpU (op := .geq) (a := ((n : Nat) : Int)) (b := 65536) rfl (by rfl) (by rfl) ?_)
  repeat' (first|refine X.O ?_|refine X.A ?_|refine X.B ?_|refine X.C ?_|refine X.D ?_|refine X.E ?_|refine X.F ?_|refine X.G ?_|refine X.H ?_|refine X.I ?_|fail)
  refine WP.condD (by rfl) (fun hb => absurd hb (by omega)) (fun _ => ?_)
  repeat' (first|refine X.O ?_|refine X.A ?_|refine X.B ?_|refine X.C ?_|refine X.D ?_|refine X.E ?_|refine X.F ?_|refine X.G ?_|refine X.H ?_|refine X.I ?_|fail)
  refine WL.step (o_cmpU (op := .geq) (a := ((n : Nat) : Int)) (b := 256) rfl (by rfl) (by rfl) ?_)
  repeat' (first|refine X.O ?_|refine X.A ?_|refine X.B ?_|refine X.C ?_|refine X.D ?_|refine X.E ?_|refine X.F ?_|refine X.G ?_|refine X.H ?_|refine X.I ?_|fail)
  refine WP.condD (by rfl) (fun hb => absurd hb (by omega)) (fun _ => ?_)
  repeat' (first|refine X.O ?_|refine X.A ?_|refine X.B ?_|refine X.C ?_|refine X.D ?_|refine X.E ?_|refine X.F ?_|refine X.G ?_|refine X.H ?_|refine X.I ?_|fail)
  refine WL.step (o_convK (by rfl) (wrap_u8b (by omega) (by omega)) ?_)
  refine WL.step (o_indexS (i := ((n : Nat) : Int)) (by rfl) (by rfl) (by omega) (Nat.lt_of_lt_of_le (show ((n : Nat) : Int).toNat < 256 by omega) (by decide +kernel)) ?_)
  intro b
  have hb := b.toNat_lt
  refine WL.step (o_convK (by rfl) (wrap_in (by unfold InI; omega)) ?_)
  repeat' (first|refine X.O ?_|refine X.A ?_|refine X.B ?_|refine X.C ?_|refine X.D ?_|refine X.E ?_|refine X.F ?_|refine X.G ?_|refine X.H ?_|refine X.I ?_|fail)
  refine ⟨_, ret1 rfl (by rfl), ?_⟩
  exact ⟨⟨_, rfl⟩, rfl⟩
theorem bitsLen_any (n : Nat) (hn : n ≤ 255) (w : World) : Does Try.prog 84 [.int .u64 (n : Nat)] w fun r w' => (∃ k : Int, r = .int .i64 k) ∧ w = w' := by
  refine Does.enter Try.func84 Try.ntmps84 rfl (by rfl) ?_
  repeat' (first|refine X.O ?_|refine X.A ?_|refine X.B ?_|refine X.C ?_|refine X.D ?_|refine X.E ?_|refine X.F ?_|refine X.G ?_|refine X.H ?_|refine X.I ?_|fail)
  refine WL.call (Len64_any n hn _) ?_
  rintro _ _ ⟨⟨k, rfl⟩, rfl⟩
  repeat' (first|refine X.O ?_|refine X.A ?_|refine X.B ?_|refine X.C ?_|refine X.D ?_|refine X.E ?_|refine X.F ?_|refine X.G ?_|refine X.H ?_|refine X.I ?_|fail)
  refine ⟨_, ret1 rfl (by rfl), ?_⟩
  exact ⟨⟨_, rfl⟩, rfl⟩
theorem pdqRows_any {g : FuncId} [FuncTy Try.prog g] {cf : List Int → List Int → Int} (hcf : CmpRows g cf) {lo hi : Nat} {w : World} {v : Value} {vs : List Value} {xss : List (List Int)} (h : OwSSv 22 2 lo hi w v vs xss) (hn : xss.length ≤ 12) (k : Int) :
    Does Try.prog 83 [v, .int .i64 0, .int .i64 (xss.length : Nat), .int .i64 k, .func (.func g) #[] #[]] w fun r w' => r = .tuple #[] ∧ (∃ vs', OwSSv 22 2 lo hi w' v vs' (insSort (fun x y => decide (cf x y < 0)) xss)) ∧ Sorted lo v w w' := by
  refine Does.enter Try.func83 Try.ntmps83 rfl (by rfl) ?_
  repeat' (first|refine X.O ?_|refine X.A ?_|refine X.B ?_|refine X.C ?_|refine X.D ?_|refine X.E ?_|refine X.F ?_|refine X.G ?_|refine X.H ?_|refine X.I ?_|fail)
  refine WP.loop (fun (_ : Unit) => [(0, v), (1, .int .i64 0), (2, .int .i64 (xss.length : Nat)), (4, .func (.func g) #[] #[])])
    (fun _ w2 => Still w w2) (fun _ => 0) () ⟨rfl, rfl, rfl, rfl, trivial⟩ (Still.refl _) ?_
  rintro _ w2 hs2
  repeat' (first|refine X.O ?_|refine X.A ?_|refine X.B ?_|refine X.C ?_|refine X.D ?_|refine X.E ?_|refine X.F ?_|refine X.G ?_|refine X.H ?_|refine X.I ?_|fail)
  refine WP.condD (by rfl) (fun _ => ?_) (fun hb => absurd hb (by omega))
  repeat' (first|refine X.O ?_|refine X.A ?_|refine X.B ?_|refine X.C ?_|refine X.D ?_|refine X.E ?_|refine X.F ?_|refine X.G ?_|refine X.H ?_|refine X.I ?_|fail)
  refine WL.call (insertion_any hcf (h.chg (Chg.of_still hs2) (by omega)) (by omega)) ?_
  rintro _ w3 ⟨rfl, ⟨vs', o3⟩, hso3⟩
  repeat' (first|refine X.O ?_|refine X.A ?_|refine X.B ?_|refine X.C ?_|refine X.D ?_|refine X.E ?_|refine X.F ?_|refine X.G ?_|refine X.H ?_|refine X.I ?_|fail)
  exact ⟨_, ret0 rfl, rfl, ⟨vs', o3⟩, (Sorted.of_still hs2).trans hso3⟩
theorem SortFunc_any {g : FuncId} [FuncTy Try.prog g] {cf : List Int → List Int → Int} (hcf : CmpRows g cf) {lo hi : Nat} {w : World} {v : Value} {vs : List Value} {xss : List (List Int)} (h : OwSSv 22 2 lo hi w v vs xss) (hn : xss.length ≤ 12) :
    Does Try.prog 66 [v, .func (.func g) #[] #[]] w fun r w' => r = .tuple #[] ∧ (∃ vs', OwSSv 22 2 lo hi w' v vs' (insSort (fun x y => decide (cf x y < 0)) xss)) ∧ Sorted lo v w w' := by
  obtain ⟨a, c, hv⟩ := h.rd.shape
  subst hv
  refine Does.enter Try.func66 Try.ntmps66 rfl (by rfl) ?_
  repeat' (first|refine X.O ?_|refine X.A ?_|refine X.B ?_|refine X.C ?_|refine X.D ?_|refine X.E ?_|refine X.F ?_|refine X.G ?_|refine X.H ?_|refine X.I ?_|fail)
  refine WL.step (o_convK (by rfl) (wrap_u64 (by omega) (by omega)) ?_)
  refine WL.call (bitsLen_any xss.length (by omega) _) ?_
  rintro _ _ ⟨⟨k, rfl⟩, rfl⟩
  repeat' (first|refine X.O ?_|refine X.A ?_|refine X.B ?_|refine X.C ?_|refine X.D ?_|refine X.E ?_|refine X.F ?_|refine X.G ?_|refine X.H ?_|refine X.I ?_|fail)
  refine WL.call (pdqRows_any hcf h hn k) ?_
  rintro _ w3 ⟨rfl, hv3⟩
  repeat' (first|refine X.O ?_|refine X.A ?_|refine X.B ?_|refine X.C ?_|refine X.D ?_|refine X.E ?_|refine X.F ?_|refine X.G ?_|refine X.H ?_|refine X.I ?_|fail)
  exact ⟨_, ret0 rfl, rfl, hv3⟩
theorem stableRows_any {g : FuncId} [FuncTy Try.prog g] {cf : List Int → List Int → Int} (hcf : CmpRows g cf) {lo hi : Nat} {w : World} {v : Value} {vs : List Value} {xss : List (List Int)} (h : OwSSv 22 2 lo hi w v vs xss) (hn : xss.length ≤ 19) :
    Does Try.prog 121 [v, .int .i64 (xss.length : Nat), .func (.func g) #[] #[]] w fun r w' => r = .tuple #[] ∧ (∃ vs', OwSSv 22 2 lo hi w' v vs' (insSort (fun x y => decide (cf x y < 0)) xss)) ∧ Sorted lo v w w' := by
  refine Does.enter Try.func121 Try.ntmps121 rfl (by rfl) ?_
  repeat' (first|refine X.O ?_|refine X.A ?_|refine X.B ?_|refine X.C ?_|refine X.D ?_|refine X.E ?_|refine X.F ?_|refine X.G ?_|refine X.H ?_|refine X.I ?_|fail)
  refine WP.loop (fun (_ : Unit) => [(0, v), (1, .int .i64 (xss.length : Nat)), (2, .func (.func g) #[] #[]), (6, .int .i64 20), (7, .int .i64 0), (8, .int .i64 20)])
    (fun _ w2 => Still w w2) (fun _ => 0) () ⟨rfl, rfl, rfl, rfl, rfl, rfl, trivial⟩ (Still.refl _) ?_
  rintro _ w2 hs2
  repeat' (first|refine X.O ?_|refine X.A ?_|refine X.B ?_|refine X.C ?_|refine X.D ?_|refine X.E ?_|refine X.F ?_|refine X.G ?_|refine X.H ?_|refine X.I ?_|fail)
  refine WP.condD (by rfl) (fun hb => absurd hb (by omega)) (fun _ => ?_)
  repeat' (first|refine X.O ?_|refine X.A ?_|refine X.B ?_|refine X.C ?_|refine X.D ?_|refine X.E ?_|refine X.F ?_|refine X.G ?_|refine X.H ?_|refine X.I ?_|fail)
  refine WL.call (insertion_any hcf (h.chg (Chg.of_still hs2) (by omega)) (by omega)) ?_
  rintro _ w3 ⟨rfl, ⟨vs', o3⟩, hso3⟩
  repeat' (first|refine X.O ?_|refine X.A ?_|refine X.B ?_|refine X.C ?_|refine X.D ?_|refine X.E ?_|refine X.F ?_|refine X.G ?_|refine X.H ?_|refine X.I ?_|fail)
  refine WP.loop (fun (_ : Unit) => [(1, .int .i64 (xss.length : Nat)), (6, .int .i64 20)])
    (fun _ w4 => Still w3 w4) (fun _ => 0) () ⟨rfl, rfl, trivial⟩ (Still.refl _) ?_
  rintro _ w4 hs4
  repeat' (first|refine X.O ?_|refine X.A ?_|refine X.B ?_|refine X.C ?_|refine X.D ?_|refine X.E ?_|refine X.F ?_|refine X.G ?_|refine X.H ?_|refine X.I ?_|fail)
  refine WP.condD (by rfl) (fun hb => absurd hb (by omega)) (fun _ => ?_)
  repeat' (first|refine X.O ?_|refine X.A ?_|refine X.B ?_|refine X.C ?_|refine X.D ?_|refine X.E ?_|refine X.F ?_|refine X.G ?_|refine X.H ?_|refine X.I ?_|fail)
  exact ⟨_, ret0 rfl, rfl, ⟨vs', o3.chg (Chg.of_still hs4) (by omega)⟩, ((Sorted.of_still hs2).trans hso3).trans (Sorted.of_still hs4)⟩
theorem SortStableFunc_any {g : FuncId} [FuncTy Try.prog g] {cf : List Int → List Int → Int} (hcf : CmpRows g cf) {lo hi : Nat} {w : World} {v : Value} {vs : List Value} {xss : List (List Int)} (h : OwSSv 22 2 lo hi w v vs xss) (hn : xss.length ≤ 19) :
    Does Try.prog 109 [v, .func (.func g) #[] #[]] w fun r w' => r = .tuple #[] ∧ (∃ vs', OwSSv 22 2 lo hi w' v vs' (insSort (fun x y => decide (cf x y < 0)) xss)) ∧ Sorted lo v w w' := by
  obtain ⟨a, c, hv⟩ := h.rd.shape
  subst hv
  refine Does.enter Try.func109 Try.ntmps109 rfl (by rfl) ?_
  repeat' (first|refine X.O ?_|refine X.A ?_|refine X.B ?_|refine X.C ?_|refine X.D ?_|refine X.E ?_|refine X.F ?_|refine X.G ?_|refine X.H ?_|refine X.I ?_|fail)
  refine WL.call (stableRows_any hcf h hn) ?_
  rintro _ w3 ⟨rfl, hv3⟩
  repeat' (first|refine X.O ?_|refine X.A ?_|refine X.B ?_|refine X.C ?_|refine X.D ?_|refine X.E ?_|refine X.F ?_|refine X.G ?_|refine X.H ?_|refine X.I ?_|fail)
  exact ⟨_, ret0 rfl, rfl, hv3⟩
end Go.Proofs
/- Plain facts: the program's canonical trees, their branches, and the stage weights of them. -/
namespace Go.Rk
open Go.Fw Go.Proofs
/-- A list of levels behind a node of the level p. -/
def Ch : Int → List Int → Prop
  | _, [] => True
  | p, v :: r => (1 ≤ v ∧ v ≤ p + 1) ∧ Ch v r
theorem ch_of : ∀ (r : List Int) (p : Int), (∀ i (h : i < r.length), 1 ≤ r[i] ∧ r[i] ≤ (p :: r)[i]'(by simp; omega) + 1) → Ch p r
  | [], _, _ => trivial
  | v :: r, p, h => ⟨h 0 (by simp), ch_of r v fun i hi => h (i + 1) (by simp; omega)⟩
theorem ch_at : ∀ (r : List Int) (p : Int), Ch p r → ∀ i (h : i < r.length), 1 ≤ r[i] ∧ r[i] ≤ (p :: r)[i]'(by simp; omega) + 1
  | [], _, _, i, h => by simp at h
  | v :: r, p, hc, 0, _ => hc.1
  | v :: r, p, hc, i + 1, h => ch_at r v hc.2 i (by simpa using h)
theorem Lv.ch {t : List Int} (h : Lv t) : ∃ r, t = 0 :: r ∧ Ch 0 r := by
  cases t with
  | nil => have := h.pos; simp at this
  | cons a r =>
    have h0 := h.zero
    simp at h0
    subst h0
    refine ⟨r, rfl, ch_of r 0 fun i hi => ?_⟩
    have := h.at_ (i + 1) (by simp; omega)
    rw [levAt_pos (by omega) (by simp; omega), decide_eq_true_eq] at this
    simpa using this
theorem ch_lv {r : List Int} (h : Ch 0 r) : Lv (0 :: r) := ⟨by simp, fun i hi => by
  cases i with
  | zero => rfl
  | succ i =>
    have hir : i < r.length := by simpa using hi
    rw [levAt_pos (by omega) hi, decide_eq_true_eq]
    have := ch_at r 0 h i hir
    simpa using this⟩
theorem ch_pos : ∀ {r : List Int} {p : Int}, Ch p r → ∀ v ∈ r, 1 ≤ v
  | v :: r, _, h, u, hu => by
    rcases List.mem_cons.1 hu with rfl | hu
    · exact h.1.1
    · exact ch_pos h.2 u hu
theorem ch_le : ∀ {r : List Int} {p : Int}, Ch p r → ∀ v ∈ r, v ≤ p + r.length
  | v :: r, p, h, u, hu => by
    have := h.1.2
    rcases List.mem_cons.1 hu with rfl | hu
    · simp only [List.length_cons]; omega
    · have := ch_le h.2 u hu; simp only [List.length_cons]; omega
theorem ch_inc : ∀ {r : List Int} {p : Int}, Ch p r → Ch (p + 1) (r.map (· + 1))
  | [], _, _ => trivial
  | v :: r, p, h => ⟨⟨by have := h.1.1; show 1 ≤ v + 1; omega, by have := h.1.2; show v + 1 ≤ p + 1 + 1; omega⟩, ch_inc h.2⟩
theorem ch_append : ∀ {a b : List Int} {p : Int}, 0 ≤ p → Ch p a → (∀ q, 0 ≤ q → Ch q b) → Ch p (a ++ b)
  | [], _, _, hp, _, hb => hb _ hp
  | v :: a, _, _, _, ha, hb => ⟨ha.1, ch_append (by have := ha.1.1; omega) ha.2 hb⟩
/-- A root on a forest. -/
def rootL (bs : List (List Int)) : List Int := 0 :: bs.flatten.map (· + 1)
theorem ch_forest : ∀ {bs : List (List Int)}, (∀ b ∈ bs, Lv b) → ∀ q, 0 ≤ q → Ch q (bs.flatten.map (· + 1))
  | [], _, _, _ => trivial
  | b :: bs, h, q, hq => by
    obtain ⟨r, rfl, hr⟩ := (h b (by simp)).ch
    rw [List.flatten_cons, List.map_append]
    refine ch_append hq ?_ fun q' hq' => ch_forest (fun b' hb' => h b' (by simp [hb'])) q' hq'
    exact ⟨⟨by show (1 : Int) ≤ 0 + 1; omega, by show (0 : Int) + 1 ≤ q + 1; omega⟩, ch_inc hr⟩
theorem rootL_lv {bs : List (List Int)} (h : ∀ b ∈ bs, Lv b) : Lv (rootL bs) := ch_lv (ch_forest h 0 (Int.le_refl _))
theorem rootL_length (bs : List (List Int)) : (rootL bs).length = bs.flatten.length + 1 := by unfold rootL; rw [List.length_cons, List.length_map]
/-- The branches of a tree, pushed one by one. -/
theorem brI_fold (t : List Int) (h : 1 ≤ t.length) : ∀ i, 1 ≤ i → i ≤ t.length → brI t i = ((t.take i).drop 1).foldl pushB []
  | 0, h0, _ => by omega
  | 1, _, _ => by
    rw [brI_one]
    cases t with
    | nil => simp at h
    | cons a t => rfl
  | i + 2, _, h2 => by
    rw [brI_succ (by omega) (by omega), brI_fold t h (i + 1) (by omega) (by omega), List.take_succ_eq_append_getElem (show i + 1 < t.length by omega), List.drop_append_of_le_length (by rw [List.length_take]; omega), List.foldl_append]
    rfl
theorem branchesL_fold (t : List Int) (h : 1 ≤ t.length) : branchesL t = (t.drop 1).foldl pushB [] := by
  unfold branchesL
  rw [brI_fold t h t.length h (Nat.le_refl _), List.take_length]
theorem fold_more : ∀ (r : List Int) (out : List (List Int)) (c : List Int), (∀ v ∈ r, 1 ≤ v) → (r.map (· + 1)).foldl pushB (out ++ [c]) = out ++ [c ++ r]
  | [], out, c, _ => by simp
  | v :: r, out, c, h => by
    have hv := h v (by simp)
    rw [List.map_cons, List.foldl_cons, pushB_more out c (by omega), show v + 1 - 1 = v by omega, fold_more r out (c ++ [v]) (fun u hu => h u (by simp [hu])), List.append_assoc]
    rfl
theorem fold_forest : ∀ (bs out : List (List Int)), (∀ b ∈ bs, Lv b) → (bs.flatten.map (· + 1)).foldl pushB out = out ++ bs
  | [], out, _ => by simp
  | b :: bs, out, h => by
    obtain ⟨r, rfl, hr⟩ := (h b (by simp)).ch
    rw [List.flatten_cons, List.map_append, List.foldl_append, List.map_cons, List.foldl_cons]
    rw [show (0 : Int) + 1 = 1 from rfl, pushB_one, fold_more r out [0] (ch_pos hr), fold_forest bs _ (fun b' hb' => h b' (by simp [hb'])), List.append_assoc]
    rfl
theorem branchesL_root {bs : List (List Int)} (h : ∀ b ∈ bs, Lv b) : branchesL (rootL bs) = bs := by
  rw [branchesL_fold _ (by simp [rootL])]
  show (bs.flatten.map (· + 1)).foldl pushB [] = bs
  rw [fold_forest bs [] h, List.nil_append]
/-- How the program sorts branches. -/
def ltC (x y : List Int) : Bool := decide (cmpL y x < 0)
def ltT (x y : List Int) : Bool := decide (cmpT x y < 0)
def canonI : Nat → List Int → List Int
  | 0, _ => []
  | f + 1, t => rootL (insSort ltC ((branchesL t).map (canonI f)))
theorem flatten_length_perm {a b : List (List Int)} (h : a.Perm b) : a.flatten.length = b.flatten.length := (List.Perm.flatten h).length_eq
/-- The nodes of the branches are those of the tree without the root. -/
theorem pushB_count (out : List (List Int)) (l : Int) (h : l = 1 ∨ out ≠ []) : (pushB out l).flatten.length = out.flatten.length + 1 := by
  by_cases hl : l = 1
  · subst hl; rw [pushB_one]; simp
  · obtain ⟨init, b, rfl⟩ : ∃ init b, out = init ++ [b] := by
      rcases List.eq_nil_or_concat out with h' | ⟨i, b, h'⟩
      · rcases h with h | h
        · exact absurd h hl
        · exact absurd h' h
      · exact ⟨i, b, by simpa using h'⟩
    rw [pushB_more init b hl]
    simp
    omega
theorem pushB_ne (out : List (List Int)) (l : Int) (h : l = 1 ∨ out ≠ []) : pushB out l ≠ [] := by
  by_cases hl : l = 1
  · subst hl; rw [pushB_one]; simp
  · unfold pushB
    rw [if_neg hl]
    rcases h with h | h
    · exact absurd h hl
    · intro e
      have := congrArg List.length e
      simp at this
      exact h this
theorem fold_count : ∀ (r : List Int) (out : List (List Int)), out ≠ [] → (r.foldl pushB out).flatten.length = out.flatten.length + r.length
  | [], _, _ => rfl
  | v :: r, out, h => by
    rw [List.foldl_cons, fold_count r _ (pushB_ne out v (Or.inr h)), pushB_count out v (Or.inr h), List.length_cons]
    omega
theorem branchesL_count {t : List Int} (h : Lv t) : (branchesL t).flatten.length + 1 = t.length := by
  obtain ⟨r, rfl, hr⟩ := h.ch
  rw [branchesL_fold _ (by simp)]
  show (r.foldl pushB []).flatten.length + 1 = _
  cases r with
  | nil => rfl
  | cons v r =>
    have hv : v = 1 := by have := hr.1; omega
    subst hv
    rw [List.foldl_cons, pushB_one, fold_count _ _ (by simp)]
    simp
    omega
theorem canonI_ok (f : Nat) : ∀ {t : List Int}, Lv t → t.length ≤ f → Lv (canonI f t) ∧ (canonI f t).length = t.length ∧ branchesL (canonI f t) = insSort ltC ((branchesL t).map (canonI (f - 1))) := by
  induction f with
  | zero => intro t ht hn; exact absurd ht.pos (by omega)
  | succ f ih =>
    intro t ht hn
    have hb := branches_ok ht
    have hp := insSort_perm ltC ((branchesL t).map (canonI f))
    have hl : ∀ b ∈ insSort ltC ((branchesL t).map (canonI f)), Lv b := fun b hb' => by
      obtain ⟨c, hc, rfl⟩ := List.mem_map.1 (hp.mem_iff.1 hb')
      exact (ih (hb.2 c hc).1 (by have := (hb.2 c hc).2; omega)).1
    refine ⟨rootL_lv hl, ?_, branchesL_root hl⟩
    rw [canonI, rootL_length, flatten_length_perm hp]
    rw [← branchesL_count ht, List.length_flatten, List.length_flatten, List.map_map]
    congr 2
    refine List.map_congr_left fun c hc => ?_
    exact (ih (hb.2 c hc).1 (by have := (hb.2 c hc).2; omega)).2.1
/-- The product over branches does not hang on their order. -/
theorem mulsL_comm3 (out a b : List Int) : mulsL (mulsL out a) b = mulsL (mulsL out b) a := by
  apply List.ext_getElem
  · simp only [mulsL_length]; omega
  · intro i h1 h2
    rw [mulsL_length, mulsL_length] at h1
    have k1 : i < (mulsL out a).length := by rw [mulsL_length]; omega
    have k2 : i < (mulsL out b).length := by rw [mulsL_length]; omega
    rw [mulsL_get (by rw [mulsL_length, mulsL_length]; exact h1) k1 (by omega), mulsL_get h2 k2 (by omega), mulsL_get k1 (by omega) (by omega), mulsL_get k2 (by omega) (by omega)]
    have hnm : ∀ p q : Int, nm (nm p * q) = nm (p * q) := fun p q => by unfold nm; rw [Int.mul_emod, Int.emod_emod, ← Int.mul_emod]
    rw [hnm, hnm, Int.mul_right_comm]
theorem prodGo_perm (x : TabD) (g : List Int → List Int) {a b : List (List Int)} (h : a.Perm b) : ∀ out, prodGo x g out a = prodGo x g out b := by
  induction h with
  | nil => intro out; rfl
  | cons y _ ih => intro out; exact ih _
  | swap y z l => intro out; show prodGo x g (mulsL (mulsL out _) _) l = prodGo x g (mulsL (mulsL out _) _) l; rw [mulsL_comm3]
  | trans _ _ ih1 ih2 => intro out; exact (ih1 out).trans (ih2 out)
theorem prodGo_congr (x : TabD) {g g' : List Int → List Int} : ∀ (bs : List (List Int)), (∀ b ∈ bs, g b = g' b) → ∀ out, prodGo x g out bs = prodGo x g' out bs
  | [], _, _ => rfl
  | b :: bs, h, out => by rw [prodGo, prodGo, h b (by simp), prodGo_congr x bs (fun b' hb' => h b' (by simp [hb']))]
theorem prodGo_map (x : TabD) (g : List Int → List Int) (k : List Int → List Int) : ∀ (bs : List (List Int)) (out : List Int), prodGo x g out (bs.map k) = prodGo x (fun b => g (k b)) out bs
  | [], _ => rfl
  | b :: bs, out => by rw [List.map_cons, prodGo, prodGo, prodGo_map x g k bs]
theorem stW_fuel (x : TabD) (f : Nat) : ∀ {t : List Int}, Lv t → t.length ≤ f → ∀ f', f ≤ f' → stW x f' t = stW x f t := by
  induction f with
  | zero => intro t ht hn; exact absurd ht.pos (by omega)
  | succ f ih =>
    intro t ht hn f' hf
    obtain ⟨m, rfl⟩ : ∃ m, f' = m + 1 := ⟨f' - 1, by omega⟩
    have hb := branches_ok ht
    rw [stW, stW]
    exact prodGo_congr x _ (fun b hb' => ih (hb.2 b hb').1 (by have := (hb.2 b hb').2; omega) m (by omega)) _
theorem stW_canon (x : TabD) (f : Nat) : ∀ {t : List Int}, Lv t → t.length ≤ f → ∀ k, t.length ≤ k → stW x f (canonI k t) = stW x f t := by
  induction f with
  | zero => intro t ht hn; exact absurd ht.pos (by omega)
  | succ f ih =>
    intro t ht hn k hk
    have hb := branches_ok ht
    have hpos := ht.pos
    have hc := (canonI_ok k ht hk).2.2
    rw [stW, stW, hc, prodGo_perm x _ (insSort_perm _ _), prodGo_map]
    exact prodGo_congr x _ (fun b hb' => ih (hb.2 b hb').1 (by have := (hb.2 b hb').2; omega) (k - 1) (by have := (hb.2 b hb').2; omega)) _
def branchesF (t : List Int) : List (List Int) := insSort ltT (branchesL (canonI 8 t))
/-- What the law says: the stage weights of a tree out of those of its branches. -/
theorem stW_branches (x : TabD) {t : List Int} (ht : Lv t) (hn : t.length ≤ 8) : prodGo x (stW x 8) (List.replicate x.2.length 1) (branchesF t) = stW x 8 t := by
  have hc := canonI_ok 8 ht hn
  have hb := branches_ok hc.1
  unfold branchesF
  rw [prodGo_perm x _ (insSort_perm _ _), ← stW_canon x 8 ht hn 8 hn]
  show _ = prodGo x (stW x 7) _ (branchesL (canonI 8 t))
  refine prodGo_congr x _ (fun b hb' => ?_) _
  have h7 : b.length ≤ 7 := by have := (hb.2 b hb').2; omega
  exact stW_fuel x 7 (hb.2 b hb').1 h7 8 (by omega)
theorem branchesF_ok {t : List Int} (ht : Lv t) (hn : t.length ≤ 8) : ∀ b ∈ branchesF t, Lv b ∧ b.length ≤ 7 := fun b hb => by
  have hc := canonI_ok 8 ht hn
  have hb' := branches_ok hc.1
  have hm := (insSort_perm ltT _).mem_iff.1 hb
  have := hb'.2 b hm
  exact ⟨this.1, by have := this.2; omega⟩
end Go.Rk
/- The program's canonical trees and the forests of branches; DotOf; likeInts. -/
set_option maxRecDepth 8000
namespace Go.Rk
open Go.Fw Go.Proofs
def rootF (bs : List (List Int)) (i : Nat) : List Int := 0 :: (bs.take i).flatten.map (· + 1)
theorem rootF_succ {bs : List (List Int)} {i : Nat} (h : i < bs.length) : rootF bs (i + 1) = rootF bs i ++ bs[i].map (· + 1) := by
  unfold rootF
  rw [List.take_succ_eq_append_getElem h, List.flatten_append, List.map_append]
  simp
theorem rootF_all (bs : List (List Int)) : rootF bs bs.length = rootL bs := by unfold rootF rootL; rw [List.take_length]
theorem rootF_len {bs : List (List Int)} (h : ∀ b ∈ bs, b.length ≤ 1000) (i : Nat) : (rootF bs i).length ≤ 1000 * bs.length + 1 := by
  unfold rootF
  rw [List.length_cons, List.length_map]
  have := flat_le (xss := bs.take i) (M := 1000) (fun s hs => h s (List.mem_of_mem_take hs))
  have h2 : 1000 * (bs.take i).length ≤ 1000 * bs.length := Nat.mul_le_mul_left _ (by rw [List.length_take]; omega)
  omega
theorem Lv.bdm {t : List Int} (h : Lv t) : ∀ v ∈ t, 0 ≤ v ∧ v ≤ t.length := fun v hv => by
  obtain ⟨r, rfl, hr⟩ := h.ch
  rcases List.mem_cons.1 hv with rfl | hv
  · simp; omega
  · have h1 := ch_pos hr v hv
    have h2 := ch_le hr v hv
    simp only [List.length_cons]
    omega
theorem put_step {bs : List (List Int)} {k : List Int → List Int} {i : Nat} (h : i < bs.length) : (((bs.map k).take i) ++ bs.drop i).set i (k bs[i]) = ((bs.map k).take (i + 1)) ++ bs.drop (i + 1) := by
  have hl : ((bs.map k).take i).length = i := by rw [List.length_take, List.length_map]; omega
  rw [List.set_append_right _ _ (by omega), hl, Nat.sub_self, List.drop_eq_getElem_cons h, List.set_cons_zero, List.take_succ_eq_append_getElem (by rw [List.length_map]; exact h), List.append_assoc]
  simp
end Go.Rk
namespace Go.Proofs
open Go Go.Fw Go.RowKit Go.Rk
theorem rootOn_any {lo hi : Nat} {w : World} {v : Value} {bs : List (List Int)} (h : ISS lo hi w v bs) (hb : ∀ b ∈ bs, b.length ≤ 1000 ∧ ∀ x ∈ b, 0 ≤ x ∧ x ≤ 1000) (hn : bs.length ≤ 1000) :
    Does Try.prog 69 [v] w fun r w' => NewI w r w' (rootL bs) := by
  obtain ⟨a, c, hv⟩ := h.shape
  subst hv
  have hhl := h.hi_le
  have hfl := rootF_len (bs := bs) fun b hb' => (hb b hb').1
  refine Does.enter Try.func69 Try.ntmps69 rfl (by rfl) ?_
  repeat' (first|refine X.O ?_|refine X.A ?_|refine X.B ?_|refine X.C ?_|refine X.D ?_|refine X.E ?_|refine X.F ?_|refine X.G ?_|refine X.H ?_|refine X.I ?_|fail)
  refine WL.step (o_lit (us := Ints [0]) (by rfl) (by rfl) rfl (by decide) Ints_one ?_)
  intro v1 w1 hown1 hbl1 hz1 _
  repeat' (first|refine X.O ?_|refine X.A ?_|refine X.B ?_|refine X.C ?_|refine X.D ?_|refine X.E ?_|refine X.F ?_|refine X.G ?_|refine X.H ?_|refine X.I ?_|fail)
  refine WP.loop (fun (s : Nat × Value) => [(3, s.2), (9, .slice a bs.length c), (10, .int .i64 (bs.length : Nat)), (11, .int .i64 (s.1 : Nat))])
    (fun s w2 => s.1 ≤ bs.length ∧ Own w.heap.size 2 w2 s.2 (Ints (rootF bs s.1)) ∧ Below w.heap.size w w2)
    (fun s => bs.length - s.1) (0, v1) ⟨rfl, rfl, rfl, rfl, trivial⟩ ⟨by dsimp only; omega, hown1, hbl1⟩ ?_
  rintro ⟨i, vo⟩ w2 ⟨hi1, hown2, hbl2⟩
  dsimp only at hi1 hown2 ⊢
  have hz2 := hbl2.size
  have hf1 := hfl i
  repeat' (first|refine X.O ?_|refine X.A ?_|refine X.B ?_|refine X.C ?_|refine X.D ?_|refine X.E ?_|refine X.F ?_|refine X.G ?_|refine X.H ?_|refine X.I ?_|fail)
  first|refine X.J (fun _ => ?_) (fun _ => ?_)|refine X.L (fun _ => ?_) (fun _ => ?_)|refine X.M (fun _ => ?_) (fun _ => ?_)|refine X.R (fun _ => ?_) (fun _ => ?_)|fail
  · rename_i hlt
    have hli : i < bs.length := by omega
    have hbi := hb _ (List.getElem_mem hli)
    repeat' (first|refine X.O ?_|refine X.A ?_|refine X.B ?_|refine X.C ?_|refine X.D ?_|refine X.E ?_|refine X.F ?_|refine X.G ?_|refine X.H ?_|refine X.I ?_|fail)
    refine WL.ixload (j := i) (h.below IS.stable hbl2 hhl) (List.getElem?_eq_getElem hli) ?_
    intro p1 u hu
    obtain ⟨au, cu, hvu⟩ := hu.shape
    subst hvu
    repeat' (first|refine X.O ?_|refine X.A ?_|refine X.B ?_|refine X.C ?_|refine X.D ?_|refine X.E ?_|refine X.F ?_|refine X.G ?_|refine X.H ?_|refine X.I ?_|fail)
    refine WP.loop (fun (s : Nat × Value) => [(3, s.2), (9, .slice a bs.length c), (10, .int .i64 (bs.length : Nat)), (11, .int .i64 (i : Nat)), (15, .slice au bs[i].length cu), (16, .int .i64 (bs[i].length : Nat)), (17, .int .i64 (s.1 : Nat))])
      (fun s w3 => s.1 ≤ bs[i].length ∧ Own w.heap.size 2 w3 s.2 (Ints (rootF bs i ++ (bs[i].take s.1).map (· + 1))) ∧ Below w.heap.size w w3 ∧ Below w.heap.size w2 w3)
      (fun s => bs[i].length - s.1) (0, vo) ⟨rfl, rfl, rfl, rfl, rfl, rfl, rfl, trivial⟩ ⟨by dsimp only; omega, by simpa using hown2, hbl2, Below.refl _ _⟩ ?_
    rintro ⟨k, vo3⟩ w3 ⟨hk1, hown3, hbl3, hbl23⟩
    dsimp only at hk1 hown3 ⊢
    have hz3 := hbl3.size
    repeat' (first|refine X.O ?_|refine X.A ?_|refine X.B ?_|refine X.C ?_|refine X.D ?_|refine X.E ?_|refine X.F ?_|refine X.G ?_|refine X.H ?_|refine X.I ?_|fail)
    first|refine X.J (fun _ => ?_) (fun _ => ?_)|refine X.L (fun _ => ?_) (fun _ => ?_)|refine X.M (fun _ => ?_) (fun _ => ?_)|refine X.R (fun _ => ?_) (fun _ => ?_)|fail
    · rename_i hltk
      have hlk : k < bs[i].length := by omega
      have hxk := hbi.2 _ (List.getElem_mem hlk)
      repeat' (first|refine X.O ?_|refine X.A ?_|refine X.B ?_|refine X.C ?_|refine X.D ?_|refine X.E ?_|refine X.F ?_|refine X.G ?_|refine X.H ?_|refine X.I ?_|fail)
      refine WL.ixload (j := k) (hu.below RI.stable hbl23 hhl) (List.getElem?_eq_getElem hlk) ?_
      rintro p2 _ rfl
      repeat' (first|refine X.O ?_|refine X.A ?_|refine X.B ?_|refine X.C ?_|refine X.D ?_|refine X.E ?_|refine X.F ?_|refine X.G ?_|refine X.H ?_|refine X.I ?_|fail)
      have hlen : (rootF bs i ++ (bs[i].take k).map (· + 1)).length = (rootF bs i).length + k := by rw [List.length_append, List.length_map, List.length_take]; omega
      refine o_append1 (u := .int .i64 (bs[i][k] + 1)) (fun _ => by rfl) (by rfl) hown3 rfl (by rw [Ints_length, hlen]; simp [maxLen]; omega) (by rw [Ints_length, hlen]; omega) (by omega) ?_
      intro p3 v4 w4 hown4 hbl4 _ hz4 _
      repeat' (first|refine X.O ?_|refine X.A ?_|refine X.B ?_|refine X.C ?_|refine X.D ?_|refine X.E ?_|refine X.F ?_|refine X.G ?_|refine X.H ?_|refine X.I ?_|fail)
      refine ⟨(k + 1, v4), ⟨rfl, rfl, rfl, rfl, rfl, rfl, (by first|rfl|exact X.T (by omega)), trivial⟩, ⟨by dsimp only; omega, ?_, hbl3.trans hbl4, hbl23.trans hbl4⟩, by dsimp only; omega⟩
      dsimp only
      rw [List.take_succ_eq_append_getElem hlk, List.map_append, ← List.append_assoc, Ints_append]
      exact hown4
    · rename_i hgek
      have hke : k = bs[i].length := by omega
      subst hke
      rw [List.take_length, ← rootF_succ hli] at hown3
      repeat' (first|refine X.O ?_|refine X.A ?_|refine X.B ?_|refine X.C ?_|refine X.D ?_|refine X.E ?_|refine X.F ?_|refine X.G ?_|refine X.H ?_|refine X.I ?_|fail)
      exact ⟨(i + 1, vo3), ⟨rfl, rfl, rfl, (by first|rfl|exact X.T (by omega)), trivial⟩, ⟨by dsimp only; omega, hown3, hbl3⟩, by dsimp only; omega⟩
  · rename_i hge
    have hie : i = bs.length := by omega
    subst hie
    rw [rootF_all] at hown2
    repeat' (first|refine X.O ?_|refine X.A ?_|refine X.B ?_|refine X.C ?_|refine X.D ?_|refine X.E ?_|refine X.F ?_|refine X.G ?_|refine X.H ?_|refine X.I ?_|fail)
    refine ⟨_, ret1 rfl (by rfl), ?_⟩
    exact ⟨hown2, hbl2⟩
set_option maxHeartbeats 1000000 in
theorem canonical_any (f : Nat) (hf : f ≤ 8) : ∀ {lo hi : Nat} {w : World} {v : Value} {t : List Int}, IS lo hi w v t → Lv t → t.length ≤ f →
    Does Try.prog 48 [v] w fun r w' => NewI w r w' (canonI f t) := by
  induction f with
  | zero => intro _ _ _ _ t _ ht hn; exact absurd ht.pos (by omega)
  | succ f ih =>
  intro lo hi w v t h ht hn
  have hz := h.hi_le
  refine Does.enter Try.func48 Try.ntmps48 rfl (by rfl) ?_
  repeat' (first|refine X.O ?_|refine X.A ?_|refine X.B ?_|refine X.C ?_|refine X.D ?_|refine X.E ?_|refine X.F ?_|refine X.G ?_|refine X.H ?_|refine X.I ?_|fail)
  refine WL.call (branchesOf_any h ht (by omega)) ?_
  rintro v1 w1 ⟨⟨vs1, o1⟩, hbl1⟩
  have hz1 := hbl1.size
  have hbr := branches_ok ht
  have hper := insSort_perm ltC ((branchesL t).map (canonI f))
  have hcan : canonI (f + 1) t = rootL (insSort ltC ((branchesL t).map (canonI f))) := rfl
  obtain ⟨bs, hbs⟩ : ∃ bs, branchesL t = bs := ⟨_, rfl⟩
  rw [hbs] at o1 hbr hper hcan
  obtain ⟨a1, c1, hv1⟩ := o1.rd.shape
  subst hv1
  repeat' (first|refine X.O ?_|refine X.A ?_|refine X.B ?_|refine X.C ?_|refine X.D ?_|refine X.E ?_|refine X.F ?_|refine X.G ?_|refine X.H ?_|refine X.I ?_|fail)
  refine WP.loop (fun (i : Nat) => [(3, .slice a1 bs.length c1), (8, .slice a1 bs.length c1), (9, .int .i64 (bs.length : Nat)), (10, .int .i64 (i : Nat))])
    (fun i w2 => i ≤ bs.length ∧ (∃ vs, OwSSv 22 2 w.heap.size w2.heap.size w2 (.slice a1 bs.length c1) vs (((bs.map (canonI f)).take i) ++ bs.drop i)) ∧ Below w.heap.size w w2)
    (fun i => bs.length - i) 0 ⟨rfl, rfl, rfl, rfl, trivial⟩ ⟨by omega, ⟨vs1, by simpa using o1⟩, hbl1⟩ ?_
  rintro i w2 ⟨hi1, ⟨vs2, o2⟩, hbl2⟩
  have hz2 := hbl2.size
  have hml : (((bs.map (canonI f)).take i) ++ bs.drop i).length = bs.length := by rw [List.length_append, List.length_take, List.length_map, List.length_drop]; omega
  have hvl2 : vs2.length = bs.length := by rw [o2.len, hml]
  repeat' (first|refine X.O ?_|refine X.A ?_|refine X.B ?_|refine X.C ?_|refine X.D ?_|refine X.E ?_|refine X.F ?_|refine X.G ?_|refine X.H ?_|refine X.I ?_|fail)
  first|refine X.J (fun _ => ?_) (fun _ => ?_)|refine X.L (fun _ => ?_) (fun _ => ?_)|refine X.M (fun _ => ?_) (fun _ => ?_)|refine X.R (fun _ => ?_) (fun _ => ?_)|fail
  · rename_i hlt
    have hli : i < bs.length := by omega
    have hbi := hbr.2 _ (List.getElem_mem hli)
    have hget : (((bs.map (canonI f)).take i) ++ bs.drop i)[i]? = some bs[i] := by
      have hl : ((bs.map (canonI f)).take i).length = i := by rw [List.length_take, List.length_map]; omega
      rw [List.getElem?_append_right (by omega), hl, Nat.sub_self, List.drop_eq_getElem_cons hli]
      rfl
    repeat' (first|refine X.O ?_|refine X.A ?_|refine X.B ?_|refine X.C ?_|refine X.D ?_|refine X.E ?_|refine X.F ?_|refine X.G ?_|refine X.H ?_|refine X.I ?_|fail)
    refine WL.ixload (j := i) o2.rd hget ?_
    intro p1 u hu
    repeat' (first|refine X.O ?_|refine X.A ?_|refine X.B ?_|refine X.C ?_|refine X.D ?_|refine X.E ?_|refine X.F ?_|refine X.G ?_|refine X.H ?_|refine X.I ?_|fail)
    refine WL.call (ih (by omega) hu hbi.1 (by omega)) ?_
    intro v3 w3 hN3
    have hz3 := hN3.2.size
    have o3 := o2.chg (Chg.of_below hN3.2) (by omega)
    obtain ⟨a3, n3, c3, rfl⟩ : ∃ a n c, v3 = Value.slice a n c := by obtain ⟨a, c, h, _⟩ := hN3.1.shape; exact ⟨_, _, _, h⟩
    refine WL.ixstore (j := i) o3.own (by omega) ?_
    intro p2 w4 hown4 hbl4 hz4 hf4
    have o4 := o3.putRow (by omega) hN3.ow (Nat.le_refl _) (by omega) hown4 hz4 hf4 (by omega)
    rw [put_step hli] at o4
    repeat' (first|refine X.O ?_|refine X.A ?_|refine X.B ?_|refine X.C ?_|refine X.D ?_|refine X.E ?_|refine X.F ?_|refine X.G ?_|refine X.H ?_|refine X.I ?_|fail)
    exact ⟨i + 1, ⟨rfl, rfl, rfl, (by first|rfl|exact X.T (by omega)), trivial⟩, ⟨by omega, ⟨_, o4.wide (Nat.le_refl _) (by omega) (Nat.le_refl _)⟩, (hbl2.trans (Below.mono hN3.2 (by omega))).trans hbl4⟩, by omega⟩
  · rename_i hge
    have hie : i = bs.length := by omega
    subst hie
    rw [List.drop_length, List.append_nil, List.take_of_length_le (by rw [List.length_map]; omega)] at o2
    repeat' (first|refine X.O ?_|refine X.A ?_|refine X.B ?_|refine X.C ?_|refine X.D ?_|refine X.E ?_|refine X.F ?_|refine X.G ?_|refine X.H ?_|refine X.I ?_|fail)
    refine WL.call (SortFunc_any (g := 67) (cf := fun x y => cmpL y x) (fun h h' => canonCmp_any h h') o2 (by rw [List.length_map]; omega)) ?_
    rintro _ w3 ⟨rfl, ⟨vs3, o3⟩, hso3⟩
    have hz3 := hso3.size
    have hl3 : ∀ b ∈ insSort ltC (bs.map (canonI f)), Lv b ∧ b.length ≤ 8 := fun b hb => by
      obtain ⟨c, hc, rfl⟩ := List.mem_map.1 (hper.mem_iff.1 hb)
      have hcb := hbr.2 c hc
      have hok := canonI_ok f hcb.1 (by omega)
      exact ⟨hok.1, by omega⟩
    have o3' : OwSSv 22 2 w.heap.size w2.heap.size w3 (.slice a1 bs.length c1) vs3 (insSort ltC (bs.map (canonI f))) := o3
    repeat' (first|refine X.O ?_|refine X.A ?_|refine X.B ?_|refine X.C ?_|refine X.D ?_|refine X.E ?_|refine X.F ?_|refine X.G ?_|refine X.H ?_|refine X.I ?_|fail)
    refine WL.call (rootOn_any o3'.rd (fun b hb => ⟨by have := (hl3 b hb).2; omega, fun x hx => by have := (hl3 b hb).1.bdm x hx; have := (hl3 b hb).2; omega⟩) (by rw [insSort_length, List.length_map]; omega)) ?_
    intro v4 w4 hN4
    repeat' (first|refine X.O ?_|refine X.A ?_|refine X.B ?_|refine X.C ?_|refine X.D ?_|refine X.E ?_|refine X.F ?_|refine X.G ?_|refine X.H ?_|refine X.I ?_|fail)
    refine ⟨_, ret1 rfl (by rfl), ?_⟩
    rw [hcan]
    exact ⟨hN4.1.lower (by omega), (hbl2.trans hso3.bel).trans (Below.mono hN4.2 (by omega))⟩
theorem cloneRows_any {lo hi : Nat} {w : World} {v : Value} {xss : List (List Int)} (h : ISS lo hi w v xss) (hb : ∀ b ∈ xss, b.length ≤ 1000000) (hn : xss.length ≤ 1000000) :
    Does Try.prog 108 [v] w fun r w' => NewSS 22 2 w r w' xss := by
  obtain ⟨a, c, hv⟩ := h.shape
  subst hv
  have hhl := h.hi_le
  refine Does.enter Try.func108 Try.ntmps108 rfl (by rfl) ?_
  repeat' (first|refine X.O ?_|refine X.A ?_|refine X.B ?_|refine X.C ?_|refine X.D ?_|refine X.E ?_|refine X.F ?_|refine X.G ?_|refine X.H ?_|refine X.I ?_|fail)
  refine WL.step (o_lit (us := []) (by rfl) (by rfl) rfl (by decide) one0 ?_)
  intro v1 w1 hown1 hbl1 hz1 _
  repeat' (first|refine X.O ?_|refine X.A ?_|refine X.B ?_|refine X.C ?_|refine X.D ?_|refine X.E ?_|refine X.F ?_|refine X.G ?_|refine X.H ?_|refine X.I ?_|fail)
  refine WP.loop (fun (s : Nat × Value) => [(3, s.2), (7, .slice a xss.length c), (8, .int .i64 (xss.length : Nat)), (9, .int .i64 (s.1 : Nat))])
    (fun s w2 => s.1 ≤ xss.length ∧ (∃ vs, OwSSv 22 2 w.heap.size w2.heap.size w2 s.2 vs (xss.take s.1)) ∧ Below w.heap.size w w2)
    (fun s => xss.length - s.1) (0, v1) ⟨rfl, rfl, rfl, rfl, trivial⟩ ⟨by dsimp only; omega, ⟨[], OwSSv.none hown1 (by decide)⟩, hbl1⟩ ?_
  rintro ⟨i, vo⟩ w2 ⟨hi1, ⟨vs, oA⟩, hbl2⟩
  dsimp only at hi1 oA ⊢
  have hz2 := hbl2.size
  have hvl : vs.length = i := by rw [oA.len, List.length_take]; omega
  repeat' (first|refine X.O ?_|refine X.A ?_|refine X.B ?_|refine X.C ?_|refine X.D ?_|refine X.E ?_|refine X.F ?_|refine X.G ?_|refine X.H ?_|refine X.I ?_|fail)
  first|refine X.J (fun _ => ?_) (fun _ => ?_)|refine X.L (fun _ => ?_) (fun _ => ?_)|refine X.M (fun _ => ?_) (fun _ => ?_)|refine X.R (fun _ => ?_) (fun _ => ?_)|fail
  · rename_i hlt
    have hli : i < xss.length := by omega
    repeat' (first|refine X.O ?_|refine X.A ?_|refine X.B ?_|refine X.C ?_|refine X.D ?_|refine X.E ?_|refine X.F ?_|refine X.G ?_|refine X.H ?_|refine X.I ?_|fail)
    refine WL.ixload (j := i) (h.below IS.stable hbl2 hhl) (List.getElem?_eq_getElem hli) ?_
    intro p1 u hu
    repeat' (first|refine X.O ?_|refine X.A ?_|refine X.B ?_|refine X.C ?_|refine X.D ?_|refine X.E ?_|refine X.F ?_|refine X.G ?_|refine X.H ?_|refine X.I ?_|fail)
    refine WL.call (Clone_any hu (hb _ (List.getElem_mem hli))) ?_
    intro v3 w3 hN3
    have hz3 := hN3.2.size
    have oA3 := oA.chg (Chg.of_below hN3.2) (by omega)
    obtain ⟨_, _, hv3, _⟩ := hN3.1.shape
    refine o_append1 (u := v3) (fun _ => by rfl) (by rfl) oA3.own (by rw [hv3]; rfl) (by simp [hvl, maxLen]; omega) (by simp [hvl]; omega) (by omega) ?_
    intro p2 v4 w4 hown4 hbl4 hf4 hz4 _
    have o4 := oA3.snoc hN3.ow (by omega) (by omega) hown4 (by omega) hf4
    repeat' (first|refine X.O ?_|refine X.A ?_|refine X.B ?_|refine X.C ?_|refine X.D ?_|refine X.E ?_|refine X.F ?_|refine X.G ?_|refine X.H ?_|refine X.I ?_|fail)
    refine ⟨(i + 1, v4), ⟨rfl, rfl, rfl, (by first|rfl|exact X.T (by omega)), trivial⟩, ⟨by dsimp only; omega, ⟨vs ++ [v3], ?_⟩, (hbl2.trans (Below.mono hN3.2 (by omega))).trans hbl4⟩, by dsimp only; omega⟩
    dsimp only
    rw [List.take_succ_eq_append_getElem hli]
    exact o4
  · rename_i hge
    have : i = xss.length := by omega
    subst this
    rw [List.take_length] at oA
    repeat' (first|refine X.O ?_|refine X.A ?_|refine X.B ?_|refine X.C ?_|refine X.D ?_|refine X.E ?_|refine X.F ?_|refine X.G ?_|refine X.H ?_|refine X.I ?_|fail)
    refine ⟨_, ret1 rfl (by rfl), ?_⟩
    exact ⟨⟨vs, oA⟩, hbl2⟩
theorem forestOf_any {lo hi : Nat} {w : World} {v : Value} {xss : List (List Int)} (h : ISS lo hi w v xss) (hb : ∀ b ∈ xss, b.length ≤ 1000000) (hn : xss.length ≤ 19) :
    Does Try.prog 87 [v] w fun r w' => NewSS 22 2 w r w' (insSort ltT xss) := by
  refine Does.enter Try.func87 Try.ntmps87 rfl (by rfl) ?_
  repeat' (first|refine X.O ?_|refine X.A ?_|refine X.B ?_|refine X.C ?_|refine X.D ?_|refine X.E ?_|refine X.F ?_|refine X.G ?_|refine X.H ?_|refine X.I ?_|fail)
  refine WL.call (cloneRows_any h hb (by omega)) ?_
  rintro v1 w1 ⟨⟨vs1, o1⟩, hbl1⟩
  have hz1 := hbl1.size
  repeat' (first|refine X.O ?_|refine X.A ?_|refine X.B ?_|refine X.C ?_|refine X.D ?_|refine X.E ?_|refine X.F ?_|refine X.G ?_|refine X.H ?_|refine X.I ?_|fail)
  refine WL.call (SortStableFunc_any (g := 94) (cf := cmpT) (fun h h' => compareTrees_any h h') o1 hn) ?_
  rintro _ w2 ⟨rfl, ⟨vs2, o2⟩, hso2⟩
  repeat' (first|refine X.O ?_|refine X.A ?_|refine X.B ?_|refine X.C ?_|refine X.D ?_|refine X.E ?_|refine X.F ?_|refine X.G ?_|refine X.H ?_|refine X.I ?_|fail)
  refine ⟨_, ret1 rfl (by rfl), ?_⟩
  have o2' : OwSSv 22 2 w.heap.size w1.heap.size w2 v1 vs2 (insSort ltT xss) := o2
  exact ⟨⟨vs2, o2'.wide (Nat.le_refl _) (by rw [hso2.size]; exact Nat.le_refl _) (Nat.le_refl _)⟩, hbl1.trans hso2.bel⟩
end Go.Proofs
