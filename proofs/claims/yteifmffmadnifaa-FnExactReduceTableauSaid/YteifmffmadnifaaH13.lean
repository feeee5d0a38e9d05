/- slices.Compact over whole numbers, on a slice that the call owns. -/
import Derived.Test.YteifmffmadnifaaH12
import Derived.Test.YteifmffmadnifaaPlB
namespace Go.Rk
open Go.Fw Go.Proofs
theorem compactGo_drop {xs : List Int} {p : Int} {j : Nat} (h : j < xs.length) : compactGo p (xs.drop j) = if xs[j] = p then compactGo p (xs.drop (j + 1)) else xs[j] :: compactGo xs[j] (xs.drop (j + 1)) := by
  rw [List.drop_eq_getElem_cons h, compactGo]
theorem compactL_first {xs : List Int} (h : 0 < xs.length) : compactL xs = xs.take 1 ++ compactGo xs[0] (xs.drop 1) := by
  cases xs with
  | nil => simp at h
  | cons x xs => rfl
end Go.Rk
namespace Go.Proofs
open Go Go.Fw Go.RowKit Go.Rk
theorem Compact_any {lo : Nat} {w : World} {v : Value} {xs : List Int} (h : Own lo 2 w v (Ints xs)) :
    Does Try.prog 147 [v] w fun r w' => Own lo 2 w' r (Ints (compactL xs)) ∧ Below lo w w' ∧ w'.heap.size = w.heap.size := by
  obtain ⟨a, c, hv, _⟩ := h.shape
  rw [Ints_length] at hv
  subst hv
  have hIS := Own.is h
  have hm := hIS.len
  unfold maxLen at hm
  have hcap : xs.length ≤ c := by have := hIS.shapeC; obtain ⟨_, _, e, hc⟩ := this; simp only [Value.slice.injEq] at e; omega
  refine Does.enter Try.func147 Try.ntmps147 rfl (by rfl) ?_
  repeat' (first | refine WL.step (o_s (by rfl) ?_) | refine WL.step (o_len (by rfl) ?_) | refine WL.step (o_add (by rfl) (by rfl) (by unfold InI; omega) ?_) | refine WL.step (o_sub (by rfl) (by rfl) (by unfold InI; omega) ?_) | refine WL.step (OpW.pass (by rfl) ?_) | refine WL.nil ?_ | refine thenN ?_ | refine WP.region ?_ | refine WP.seq ?_ | refine WP.block ?_ | refine thenR ?_ | refine thenX ?_ | refine blkN ?_ | refine blkHit ?_ | refine blkR ?_ | refine blkMiss (by rfl) ?_ | refine WP.ret ?_ | refine WP.exit ?_ | refine WP.skip ?_ | refine WP.label ?_ | refine WP.condT (by rfl) ?_ | refine WP.condF (by rfl) ?_ | fail)
  first | refine WP.condD (by rfl) (fun _ => ?_) (fun _ => ?_) | refine WP.condND (by rfl) (fun _ => ?_) (fun _ => ?_) | refine WP.condN (by rfl) (fun _ => ?_) (fun _ => ?_) | refine WP.cond (by rfl) (fun _ => ?_) (fun _ => ?_) | fail
  · rename_i hlt2
    repeat' (first | refine WL.step (o_s (by rfl) ?_) | refine WL.step (o_len (by rfl) ?_) | refine WL.step (o_add (by rfl) (by rfl) (by unfold InI; omega) ?_) | refine WL.step (o_sub (by rfl) (by rfl) (by unfold InI; omega) ?_) | refine WL.step (OpW.pass (by rfl) ?_) | refine WL.nil ?_ | refine thenN ?_ | refine WP.region ?_ | refine WP.seq ?_ | refine WP.block ?_ | refine thenR ?_ | refine thenX ?_ | refine blkN ?_ | refine blkHit ?_ | refine blkR ?_ | refine blkMiss (by rfl) ?_ | refine WP.ret ?_ | refine WP.exit ?_ | refine WP.skip ?_ | refine WP.label ?_ | refine WP.condT (by rfl) ?_ | refine WP.condF (by rfl) ?_ | fail)
    refine ⟨_, ret1 rfl (by rfl), ?_⟩
    have e : compactL xs = xs := by
      match xs, hlt2 with
      | [], _ => rfl
      | [x], _ => rfl
      | _ :: _ :: _, h => simp at h; omega
    rw [e]
    exact ⟨h, Below.refl _ _, rfl⟩
  · rename_i hge2
    have hp : 0 < xs.length := by omega
    repeat' (first | refine WL.step (o_s (by rfl) ?_) | refine WL.step (o_len (by rfl) ?_) | refine WL.step (o_add (by rfl) (by rfl) (by unfold InI; omega) ?_) | refine WL.step (o_sub (by rfl) (by rfl) (by unfold InI; omega) ?_) | refine WL.step (OpW.pass (by rfl) ?_) | refine WL.nil ?_ | refine thenN ?_ | refine WP.region ?_ | refine WP.seq ?_ | refine WP.block ?_ | refine thenR ?_ | refine thenX ?_ | refine blkN ?_ | refine blkHit ?_ | refine blkR ?_ | refine blkMiss (by rfl) ?_ | refine WP.ret ?_ | refine WP.exit ?_ | refine WP.skip ?_ | refine WP.label ?_ | refine WP.condT (by rfl) ?_ | refine WP.condF (by rfl) ?_ | fail)
    refine WP.loop (fun (k : Nat) => [(0, .slice a xs.length c), (3, .int .i64 (k : Nat))])
      (fun k w1 => 1 ≤ k ∧ k ≤ xs.length ∧ (∃ hk : k - 1 < xs.length, compactL xs = xs.take k ++ compactGo xs[k - 1] (xs.drop k)) ∧ Still w w1)
      (fun k => xs.length - k) 1 ⟨rfl, rfl, trivial⟩ ⟨by omega, by omega, ⟨by omega, compactL_first hp⟩, Still.refl _⟩ ?_
    rintro k w1 ⟨hk1, hk2, ⟨hkl, hcc⟩, hs1⟩
    have h1 := hIS.still RI.stable hs1
    repeat' (first | refine WL.step (o_s (by rfl) ?_) | refine WL.step (o_len (by rfl) ?_) | refine WL.step (o_add (by rfl) (by rfl) (by unfold InI; omega) ?_) | refine WL.step (o_sub (by rfl) (by rfl) (by unfold InI; omega) ?_) | refine WL.step (OpW.pass (by rfl) ?_) | refine WL.nil ?_ | refine thenN ?_ | refine WP.region ?_ | refine WP.seq ?_ | refine WP.block ?_ | refine thenR ?_ | refine thenX ?_ | refine blkN ?_ | refine blkHit ?_ | refine blkR ?_ | refine blkMiss (by rfl) ?_ | refine WP.ret ?_ | refine WP.exit ?_ | refine WP.skip ?_ | refine WP.label ?_ | refine WP.condT (by rfl) ?_ | refine WP.condF (by rfl) ?_ | fail)
    first | refine WP.condD (by rfl) (fun _ => ?_) (fun _ => ?_) | refine WP.condND (by rfl) (fun _ => ?_) (fun _ => ?_) | refine WP.condN (by rfl) (fun _ => ?_) (fun _ => ?_) | refine WP.cond (by rfl) (fun _ => ?_) (fun _ => ?_) | fail
    · rename_i hlt
      have hkn : k < xs.length := by omega
      rw [compactGo_drop hkn] at hcc
      repeat' (first | refine WL.step (o_s (by rfl) ?_) | refine WL.step (o_len (by rfl) ?_) | refine WL.step (o_add (by rfl) (by rfl) (by unfold InI; omega) ?_) | refine WL.step (o_sub (by rfl) (by rfl) (by unfold InI; omega) ?_) | refine WL.step (OpW.pass (by rfl) ?_) | refine WL.nil ?_ | refine thenN ?_ | refine WP.region ?_ | refine WP.seq ?_ | refine WP.block ?_ | refine thenR ?_ | refine thenX ?_ | refine blkN ?_ | refine blkHit ?_ | refine blkR ?_ | refine blkMiss (by rfl) ?_ | refine WP.ret ?_ | refine WP.exit ?_ | refine WP.skip ?_ | refine WP.label ?_ | refine WP.condT (by rfl) ?_ | refine WP.condF (by rfl) ?_ | fail)
      refine WP.drawn (fun w' => w'.heap = w1.heap) [(0, true), (1, true), (2, true), (3, true), (4, true), (5, true), (6, true), (7, true), (8, true), (9, true)] (by kernel_rfl) mixed ?_
      intro w2 hs2
      have hw2 : w2.heap = w1.heap := hs2.heap
      repeat' (first | refine WS.q rfl (q_s (by rfl)) (by first | rfl | assumption) ?_ | refine WS.q rfl (q_len (by rfl)) (by first | rfl | assumption) ?_ | refine WS.q rfl (q_add (by rfl) (by rfl) (by unfold InI; omega)) (by first | rfl | assumption) ?_ | refine WS.q rfl (q_sub (by rfl) (by rfl) (by unfold InI; omega)) (by first | rfl | assumption) ?_ | refine WS.q rfl (q_pass (by rfl)) (by first | rfl | assumption) ?_ | refine WS.nil ?_ | fail)
      refine WS.ixload (j := k) rfl rfl (h1.still RI.stable hs2) (List.getElem?_eq_getElem hkn) (fun w' hw' => same_heap (hw'.trans hw2.symm)) hw2 ?_
      rintro p1 _ rfl
      repeat' (first | refine WS.q rfl (q_s (by rfl)) (by first | rfl | assumption) ?_ | refine WS.q rfl (q_len (by rfl)) (by first | rfl | assumption) ?_ | refine WS.q rfl (q_add (by rfl) (by rfl) (by unfold InI; omega)) (by first | rfl | assumption) ?_ | refine WS.q rfl (q_sub (by rfl) (by rfl) (by unfold InI; omega)) (by first | rfl | assumption) ?_ | refine WS.q rfl (q_pass (by rfl)) (by first | rfl | assumption) ?_ | refine WS.nil ?_ | fail)
      refine WS.ixload (j := k - 1) rfl rfl (h1.still RI.stable hs2) (List.getElem?_eq_getElem hkl) (fun w' hw' => same_heap (hw'.trans hw2.symm)) hw2 ?_
      rintro p2 _ rfl
      repeat' (first | refine WS.q rfl (q_s (by rfl)) (by first | rfl | assumption) ?_ | refine WS.q rfl (q_len (by rfl)) (by first | rfl | assumption) ?_ | refine WS.q rfl (q_add (by rfl) (by rfl) (by unfold InI; omega)) (by first | rfl | assumption) ?_ | refine WS.q rfl (q_sub (by rfl) (by rfl) (by unfold InI; omega)) (by first | rfl | assumption) ?_ | refine WS.q rfl (q_pass (by rfl)) (by first | rfl | assumption) ?_ | refine WS.nil ?_ | fail)
      repeat' (first | refine WL.step (o_s (by rfl) ?_) | refine WL.step (o_len (by rfl) ?_) | refine WL.step (o_add (by rfl) (by rfl) (by unfold InI; omega) ?_) | refine WL.step (o_sub (by rfl) (by rfl) (by unfold InI; omega) ?_) | refine WL.step (OpW.pass (by rfl) ?_) | refine WL.nil ?_ | refine thenN ?_ | refine WP.region ?_ | refine WP.seq ?_ | refine WP.block ?_ | refine thenR ?_ | refine thenX ?_ | refine blkN ?_ | refine blkHit ?_ | refine blkR ?_ | refine blkMiss (by rfl) ?_ | refine WP.ret ?_ | refine WP.exit ?_ | refine WP.skip ?_ | refine WP.label ?_ | refine WP.condT (by rfl) ?_ | refine WP.condF (by rfl) ?_ | fail)
      first | refine WP.condD (by rfl) (fun _ => ?_) (fun _ => ?_) | refine WP.condND (by rfl) (fun _ => ?_) (fun _ => ?_) | refine WP.condN (by rfl) (fun _ => ?_) (fun _ => ?_) | refine WP.cond (by rfl) (fun _ => ?_) (fun _ => ?_) | fail
      · rename_i heq
        rw [if_pos heq] at hcc
        have hs12 := hs1.trans hs2
        have hown2 := h.still hs12
        repeat' (first | refine WL.step (o_s (by rfl) ?_) | refine WL.step (o_len (by rfl) ?_) | refine WL.step (o_add (by rfl) (by rfl) (by unfold InI; omega) ?_) | refine WL.step (o_sub (by rfl) (by rfl) (by unfold InI; omega) ?_) | refine WL.step (OpW.pass (by rfl) ?_) | refine WL.nil ?_ | refine thenN ?_ | refine WP.region ?_ | refine WP.seq ?_ | refine WP.block ?_ | refine thenR ?_ | refine thenX ?_ | refine blkN ?_ | refine blkHit ?_ | refine blkR ?_ | refine blkMiss (by rfl) ?_ | refine WP.ret ?_ | refine WP.exit ?_ | refine WP.skip ?_ | refine WP.label ?_ | refine WP.condT (by rfl) ?_ | refine WP.condF (by rfl) ?_ | fail)
        refine WL.step (o_sliceL (i := k) (by rfl) (by rfl) (by omega) ?_)
        repeat' (first | refine WL.step (o_s (by rfl) ?_) | refine WL.step (o_len (by rfl) ?_) | refine WL.step (o_add (by rfl) (by rfl) (by unfold InI; omega) ?_) | refine WL.step (o_sub (by rfl) (by rfl) (by unfold InI; omega) ?_) | refine WL.step (OpW.pass (by rfl) ?_) | refine WL.nil ?_ | refine thenN ?_ | refine WP.region ?_ | refine WP.seq ?_ | refine WP.block ?_ | refine thenR ?_ | refine thenX ?_ | refine blkN ?_ | refine blkHit ?_ | refine blkR ?_ | refine blkMiss (by rfl) ?_ | refine WP.ret ?_ | refine WP.exit ?_ | refine WP.skip ?_ | refine WP.label ?_ | refine WP.condT (by rfl) ?_ | refine WP.condF (by rfl) ?_ | fail)
        refine WP.loop (fun (s : Nat × Nat × List Int) => [(0, .slice a xs.length c), (3, .int .i64 (s.1 : Nat)), (4, .slice (lowAddr a c k) (xs.length - k) (c - k)), (5, .int .i64 (s.2.1 : Nat))])
          (fun s w3 => 1 ≤ s.2.1 ∧ k + s.2.1 ≤ xs.length ∧ s.1 ≤ k + s.2.1 - 1 ∧ s.2.2.length = xs.length ∧ s.2.2.drop (k + s.2.1 - 1) = xs.drop (k + s.2.1 - 1) ∧ (∃ hj : k + s.2.1 - 1 < xs.length, compactL xs = s.2.2.take s.1 ++ compactGo xs[k + s.2.1 - 1] (xs.drop (k + s.2.1))) ∧ Own lo 2 w3 (.slice a xs.length c) (Ints s.2.2) ∧ Below lo w w3 ∧ w3.heap.size = w.heap.size)
          (fun s => xs.length - (k + s.2.1)) (k, 1, xs) ⟨rfl, rfl, rfl, rfl, trivial⟩ ⟨by dsimp only; omega, by dsimp only; omega, by dsimp only; omega, rfl, rfl, ⟨by dsimp only; omega, ?_⟩, hown2, hs12.below _, hs12.size⟩ ?_
        · show compactL xs = xs.take k ++ compactGo xs[k] (xs.drop (k + 1))
          rw [heq]
          exact hcc
        rintro ⟨q, k2, ys⟩ w3 ⟨hk21, hk22, hq, hyl, hyd, ⟨hj, hcc2⟩, hown3, hbl3, hz3⟩
        dsimp only at hk21 hk22 hq hyl hyd hj hcc2 hown3 ⊢
        have h3 := Own.is hown3
        have h3' : IS lo w3.heap.size w3 (.slice (lowAddr a c k) (xs.length - k) (c - k)) (ys.drop k) := by
          have := SL.drop (R := RI) (i := k) (h3 : IS lo w3.heap.size w3 (.slice a xs.length c) ys) (by omega)
          exact this
        repeat' (first | refine WL.step (o_s (by rfl) ?_) | refine WL.step (o_len (by rfl) ?_) | refine WL.step (o_add (by rfl) (by rfl) (by unfold InI; omega) ?_) | refine WL.step (o_sub (by rfl) (by rfl) (by unfold InI; omega) ?_) | refine WL.step (OpW.pass (by rfl) ?_) | refine WL.nil ?_ | refine thenN ?_ | refine WP.region ?_ | refine WP.seq ?_ | refine WP.block ?_ | refine thenR ?_ | refine thenX ?_ | refine blkN ?_ | refine blkHit ?_ | refine blkR ?_ | refine blkMiss (by rfl) ?_ | refine WP.ret ?_ | refine WP.exit ?_ | refine WP.skip ?_ | refine WP.label ?_ | refine WP.condT (by rfl) ?_ | refine WP.condF (by rfl) ?_ | fail)
        first | refine WP.condD (by rfl) (fun _ => ?_) (fun _ => ?_) | refine WP.condND (by rfl) (fun _ => ?_) (fun _ => ?_) | refine WP.condN (by rfl) (fun _ => ?_) (fun _ => ?_) | refine WP.cond (by rfl) (fun _ => ?_) (fun _ => ?_) | fail
        · rename_i hlt3
          have hjn : k + k2 < xs.length := by omega
          have hget : ∀ (m : Nat) (hm : m < xs.length), k + k2 - 1 ≤ m → ys[m]'(by omega) = xs[m] := fun m hm hge => by
            have := congrArg (·[m - (k + k2 - 1)]?) hyd
            simp only [List.getElem?_drop] at this
            rw [show k + k2 - 1 + (m - (k + k2 - 1)) = m from by omega, List.getElem?_eq_getElem (by omega), List.getElem?_eq_getElem hm] at this
            exact Option.some.inj this
          have g1 : (ys.drop k)[k2]? = some xs[k + k2] := by rw [List.getElem?_drop, List.getElem?_eq_getElem (by omega), hget _ hjn (by omega)]
          have g2 : (ys.drop k)[k2 - 1]? = some xs[k + k2 - 1] := by rw [List.getElem?_drop, show k + (k2 - 1) = k + k2 - 1 from by omega, List.getElem?_eq_getElem (by omega), hget _ hj (Nat.le_refl _)]
          rw [compactGo_drop hjn] at hcc2
          repeat' (first | refine WL.step (o_s (by rfl) ?_) | refine WL.step (o_len (by rfl) ?_) | refine WL.step (o_add (by rfl) (by rfl) (by unfold InI; omega) ?_) | refine WL.step (o_sub (by rfl) (by rfl) (by unfold InI; omega) ?_) | refine WL.step (OpW.pass (by rfl) ?_) | refine WL.nil ?_ | refine thenN ?_ | refine WP.region ?_ | refine WP.seq ?_ | refine WP.block ?_ | refine thenR ?_ | refine thenX ?_ | refine blkN ?_ | refine blkHit ?_ | refine blkR ?_ | refine blkMiss (by rfl) ?_ | refine WP.ret ?_ | refine WP.exit ?_ | refine WP.skip ?_ | refine WP.label ?_ | refine WP.condT (by rfl) ?_ | refine WP.condF (by rfl) ?_ | fail)
          refine WP.drawn (fun w' => w'.heap = w3.heap) [(0, true), (1, true), (2, true), (3, true), (4, true), (5, true), (6, true), (7, true), (8, true), (9, true)] (by kernel_rfl) mixed ?_
          intro w4 hs4
          have hw4 : w4.heap = w3.heap := hs4.heap
          repeat' (first | refine WS.q rfl (q_s (by rfl)) (by first | rfl | assumption) ?_ | refine WS.q rfl (q_len (by rfl)) (by first | rfl | assumption) ?_ | refine WS.q rfl (q_add (by rfl) (by rfl) (by unfold InI; omega)) (by first | rfl | assumption) ?_ | refine WS.q rfl (q_sub (by rfl) (by rfl) (by unfold InI; omega)) (by first | rfl | assumption) ?_ | refine WS.q rfl (q_pass (by rfl)) (by first | rfl | assumption) ?_ | refine WS.nil ?_ | fail)
          refine WS.ixload (j := k2) rfl rfl (h3'.still RI.stable hs4) g1 (fun w' hw' => same_heap (hw'.trans hw4.symm)) hw4 ?_
          rintro p3 _ rfl
          repeat' (first | refine WS.q rfl (q_s (by rfl)) (by first | rfl | assumption) ?_ | refine WS.q rfl (q_len (by rfl)) (by first | rfl | assumption) ?_ | refine WS.q rfl (q_add (by rfl) (by rfl) (by unfold InI; omega)) (by first | rfl | assumption) ?_ | refine WS.q rfl (q_sub (by rfl) (by rfl) (by unfold InI; omega)) (by first | rfl | assumption) ?_ | refine WS.q rfl (q_pass (by rfl)) (by first | rfl | assumption) ?_ | refine WS.nil ?_ | fail)
          refine WS.ixload (j := k2 - 1) rfl rfl (h3'.still RI.stable hs4) g2 (fun w' hw' => same_heap (hw'.trans hw4.symm)) hw4 ?_
          rintro p4 _ rfl
          repeat' (first | refine WS.q rfl (q_s (by rfl)) (by first | rfl | assumption) ?_ | refine WS.q rfl (q_len (by rfl)) (by first | rfl | assumption) ?_ | refine WS.q rfl (q_add (by rfl) (by rfl) (by unfold InI; omega)) (by first | rfl | assumption) ?_ | refine WS.q rfl (q_sub (by rfl) (by rfl) (by unfold InI; omega)) (by first | rfl | assumption) ?_ | refine WS.q rfl (q_pass (by rfl)) (by first | rfl | assumption) ?_ | refine WS.nil ?_ | fail)
          have hown4 := hown3.still hs4
          have h4' := h3'.still RI.stable hs4
          have hdrop : ys.drop (k + k2) = xs.drop (k + k2) := by
            have := congrArg (List.drop 1) hyd
            rw [List.drop_drop, List.drop_drop, show k + k2 - 1 + 1 = k + k2 from by omega] at this
            exact this
          repeat' (first | refine WL.step (o_s (by rfl) ?_) | refine WL.step (o_len (by rfl) ?_) | refine WL.step (o_add (by rfl) (by rfl) (by unfold InI; omega) ?_) | refine WL.step (o_sub (by rfl) (by rfl) (by unfold InI; omega) ?_) | refine WL.step (OpW.pass (by rfl) ?_) | refine WL.nil ?_ | refine thenN ?_ | refine WP.region ?_ | refine WP.seq ?_ | refine WP.block ?_ | refine thenR ?_ | refine thenX ?_ | refine blkN ?_ | refine blkHit ?_ | refine blkR ?_ | refine blkMiss (by rfl) ?_ | refine WP.ret ?_ | refine WP.exit ?_ | refine WP.skip ?_ | refine WP.label ?_ | refine WP.condT (by rfl) ?_ | refine WP.condF (by rfl) ?_ | fail)
          first | refine WP.condD (by rfl) (fun _ => ?_) (fun _ => ?_) | refine WP.condND (by rfl) (fun _ => ?_) (fun _ => ?_) | refine WP.condN (by rfl) (fun _ => ?_) (fun _ => ?_) | refine WP.cond (by rfl) (fun _ => ?_) (fun _ => ?_) | fail
          · rename_i hne
            rw [if_neg hne] at hcc2
            repeat' (first | refine WL.step (o_s (by rfl) ?_) | refine WL.step (o_len (by rfl) ?_) | refine WL.step (o_add (by rfl) (by rfl) (by unfold InI; omega) ?_) | refine WL.step (o_sub (by rfl) (by rfl) (by unfold InI; omega) ?_) | refine WL.step (OpW.pass (by rfl) ?_) | refine WL.nil ?_ | refine thenN ?_ | refine WP.region ?_ | refine WP.seq ?_ | refine WP.block ?_ | refine thenR ?_ | refine thenX ?_ | refine blkN ?_ | refine blkHit ?_ | refine blkR ?_ | refine blkMiss (by rfl) ?_ | refine WP.ret ?_ | refine WP.exit ?_ | refine WP.skip ?_ | refine WP.label ?_ | refine WP.condT (by rfl) ?_ | refine WP.condF (by rfl) ?_ | fail)
            refine WL.ixload (j := k2) h4' g1 ?_
            rintro p5 _ rfl
            refine WL.ixstore (j := q) hown4 (by rw [Ints_length]; omega) ?_
            intro p6 w5 hown5 hbl5 hz5 _
            rw [Ints_set] at hown5
            repeat' (first | refine WL.step (o_s (by rfl) ?_) | refine WL.step (o_len (by rfl) ?_) | refine WL.step (o_add (by rfl) (by rfl) (by unfold InI; omega) ?_) | refine WL.step (o_sub (by rfl) (by rfl) (by unfold InI; omega) ?_) | refine WL.step (OpW.pass (by rfl) ?_) | refine WL.nil ?_ | refine thenN ?_ | refine WP.region ?_ | refine WP.seq ?_ | refine WP.block ?_ | refine thenR ?_ | refine thenX ?_ | refine blkN ?_ | refine blkHit ?_ | refine blkR ?_ | refine blkMiss (by rfl) ?_ | refine WP.ret ?_ | refine WP.exit ?_ | refine WP.skip ?_ | refine WP.label ?_ | refine WP.condT (by rfl) ?_ | refine WP.condF (by rfl) ?_ | fail)
            refine ⟨(q + 1, k2 + 1, ys.set q xs[k + k2]), ⟨rfl, (by first | rfl | (show some (Value.int .i64 _) = some (Value.int .i64 _); refine congrArg some (congrArg (Value.int IntKind.i64) ?_); omega)), rfl, (by first | rfl | (show some (Value.int .i64 _) = some (Value.int .i64 _); refine congrArg some (congrArg (Value.int IntKind.i64) ?_); omega)), trivial⟩, ⟨by dsimp only; omega, by dsimp only; omega, by dsimp only; omega, by rw [List.length_set]; exact hyl, ?_, ⟨by dsimp only; omega, ?_⟩, hown5, (hbl3.trans (hs4.below _)).trans hbl5, by rw [hz5, hs4.size, hz3]⟩, by dsimp only; omega⟩
            · dsimp only
              rw [show k + (k2 + 1) - 1 = k + k2 from by omega, List.drop_set, if_pos (by omega)]
              exact hdrop
            · dsimp only
              have e1 : (ys.set q xs[k + k2]).take (q + 1) = ys.take q ++ [xs[k + k2]] := by
                rw [List.take_set, List.take_succ_eq_append_getElem (show q < ys.length by omega), List.set_append, if_neg (by rw [List.length_take]; omega)]
                have e : q - (List.take q ys).length = 0 := by rw [List.length_take]; omega
                rw [e]
                rfl
              rw [e1, hcc2, List.append_assoc]
              rfl
          · rename_i heq2
            have heq2' := Decidable.not_not.1 heq2
            rw [if_pos heq2'] at hcc2
            repeat' (first | refine WL.step (o_s (by rfl) ?_) | refine WL.step (o_len (by rfl) ?_) | refine WL.step (o_add (by rfl) (by rfl) (by unfold InI; omega) ?_) | refine WL.step (o_sub (by rfl) (by rfl) (by unfold InI; omega) ?_) | refine WL.step (OpW.pass (by rfl) ?_) | refine WL.nil ?_ | refine thenN ?_ | refine WP.region ?_ | refine WP.seq ?_ | refine WP.block ?_ | refine thenR ?_ | refine thenX ?_ | refine blkN ?_ | refine blkHit ?_ | refine blkR ?_ | refine blkMiss (by rfl) ?_ | refine WP.ret ?_ | refine WP.exit ?_ | refine WP.skip ?_ | refine WP.label ?_ | refine WP.condT (by rfl) ?_ | refine WP.condF (by rfl) ?_ | fail)
            refine ⟨(q, k2 + 1, ys), ⟨rfl, rfl, rfl, (by first | rfl | (show some (Value.int .i64 _) = some (Value.int .i64 _); refine congrArg some (congrArg (Value.int IntKind.i64) ?_); omega)), trivial⟩, ⟨by dsimp only; omega, by dsimp only; omega, by dsimp only; omega, hyl, ?_, ⟨by dsimp only; omega, ?_⟩, hown4, hbl3.trans (hs4.below _), by rw [hs4.size, hz3]⟩, by dsimp only; omega⟩
            · dsimp only
              rw [show k + (k2 + 1) - 1 = k + k2 from by omega]
              exact hdrop
            · dsimp only
              rw [← heq2'] at hcc2
              exact hcc2
        · rename_i hge3
          have hje : k + k2 = xs.length := by omega
          rw [List.drop_eq_nil_of_le (by omega), compactGo, List.append_nil] at hcc2
          repeat' (first | refine WL.step (o_s (by rfl) ?_) | refine WL.step (o_len (by rfl) ?_) | refine WL.step (o_add (by rfl) (by rfl) (by unfold InI; omega) ?_) | refine WL.step (o_sub (by rfl) (by rfl) (by unfold InI; omega) ?_) | refine WL.step (OpW.pass (by rfl) ?_) | refine WL.nil ?_ | refine thenN ?_ | refine WP.region ?_ | refine WP.seq ?_ | refine WP.block ?_ | refine thenR ?_ | refine thenX ?_ | refine blkN ?_ | refine blkHit ?_ | refine blkR ?_ | refine blkMiss (by rfl) ?_ | refine WP.ret ?_ | refine WP.exit ?_ | refine WP.skip ?_ | refine WP.label ?_ | refine WP.condT (by rfl) ?_ | refine WP.condF (by rfl) ?_ | fail)
          refine WL.step (o_sliceL (i := q) (by rfl) (by rfl) (by omega) ?_)
          refine WL.step (o_clear (i := q) (by rfl) hown3 (by omega) (by rfl) ?_)
          intro w4 hown4 hbl4 hz4 _
          repeat' (first | refine WL.step (o_s (by rfl) ?_) | refine WL.step (o_len (by rfl) ?_) | refine WL.step (o_add (by rfl) (by rfl) (by unfold InI; omega) ?_) | refine WL.step (o_sub (by rfl) (by rfl) (by unfold InI; omega) ?_) | refine WL.step (OpW.pass (by rfl) ?_) | refine WL.nil ?_ | refine thenN ?_ | refine WP.region ?_ | refine WP.seq ?_ | refine WP.block ?_ | refine thenR ?_ | refine thenX ?_ | refine blkN ?_ | refine blkHit ?_ | refine blkR ?_ | refine blkMiss (by rfl) ?_ | refine WP.ret ?_ | refine WP.exit ?_ | refine WP.skip ?_ | refine WP.label ?_ | refine WP.condT (by rfl) ?_ | refine WP.condF (by rfl) ?_ | fail)
          refine WL.step (o_sliceH (i := q) (by rfl) (by rfl) (by omega) ?_)
          repeat' (first | refine WL.step (o_s (by rfl) ?_) | refine WL.step (o_len (by rfl) ?_) | refine WL.step (o_add (by rfl) (by rfl) (by unfold InI; omega) ?_) | refine WL.step (o_sub (by rfl) (by rfl) (by unfold InI; omega) ?_) | refine WL.step (OpW.pass (by rfl) ?_) | refine WL.nil ?_ | refine thenN ?_ | refine WP.region ?_ | refine WP.seq ?_ | refine WP.block ?_ | refine thenR ?_ | refine thenX ?_ | refine blkN ?_ | refine blkHit ?_ | refine blkR ?_ | refine blkMiss (by rfl) ?_ | refine WP.ret ?_ | refine WP.exit ?_ | refine WP.skip ?_ | refine WP.label ?_ | refine WP.condT (by rfl) ?_ | refine WP.condF (by rfl) ?_ | fail)
          refine ⟨_, ret1 rfl (by rfl), ?_⟩
          have hf := hown4.take (i := q) (by omega)
          have e3 : ((Ints ys).take q ++ List.replicate (xs.length - q) (Value.int .i64 0)).take q = Ints (compactL xs) := by
            have hyl2 : ((Ints ys).take q).length = q := by rw [List.length_take, Ints_length]; omega
            rw [List.take_append_of_le_length (by omega), List.take_of_length_le (by omega), hcc2]
            simp [Ints, List.map_take]
          rw [e3] at hf
          exact ⟨hf, hbl3.trans hbl4, by rw [hz4, hz3]⟩
      · rename_i hne
        rw [if_neg hne] at hcc
        repeat' (first | refine WL.step (o_s (by rfl) ?_) | refine WL.step (o_len (by rfl) ?_) | refine WL.step (o_add (by rfl) (by rfl) (by unfold InI; omega) ?_) | refine WL.step (o_sub (by rfl) (by rfl) (by unfold InI; omega) ?_) | refine WL.step (OpW.pass (by rfl) ?_) | refine WL.nil ?_ | refine thenN ?_ | refine WP.region ?_ | refine WP.seq ?_ | refine WP.block ?_ | refine thenR ?_ | refine thenX ?_ | refine blkN ?_ | refine blkHit ?_ | refine blkR ?_ | refine blkMiss (by rfl) ?_ | refine WP.ret ?_ | refine WP.exit ?_ | refine WP.skip ?_ | refine WP.label ?_ | refine WP.condT (by rfl) ?_ | refine WP.condF (by rfl) ?_ | fail)
        refine ⟨k + 1, ⟨rfl, (by first | rfl | (show some (Value.int .i64 _) = some (Value.int .i64 _); refine congrArg some (congrArg (Value.int IntKind.i64) ?_); omega)), trivial⟩, ⟨by omega, by omega, ⟨by omega, ?_⟩, hs1.trans hs2⟩, by omega⟩
        rw [List.take_succ_eq_append_getElem hkn, List.append_assoc]
        exact hcc
    · rename_i hge
      have hke : k = xs.length := by omega
      rw [List.drop_eq_nil_of_le (by omega), compactGo, List.append_nil, List.take_of_length_le (by omega)] at hcc
      repeat' (first | refine WL.step (o_s (by rfl) ?_) | refine WL.step (o_len (by rfl) ?_) | refine WL.step (o_add (by rfl) (by rfl) (by unfold InI; omega) ?_) | refine WL.step (o_sub (by rfl) (by rfl) (by unfold InI; omega) ?_) | refine WL.step (OpW.pass (by rfl) ?_) | refine WL.nil ?_ | refine thenN ?_ | refine WP.region ?_ | refine WP.seq ?_ | refine WP.block ?_ | refine thenR ?_ | refine thenX ?_ | refine blkN ?_ | refine blkHit ?_ | refine blkR ?_ | refine blkMiss (by rfl) ?_ | refine WP.ret ?_ | refine WP.exit ?_ | refine WP.skip ?_ | refine WP.label ?_ | refine WP.condT (by rfl) ?_ | refine WP.condF (by rfl) ?_ | fail)
      refine ⟨_, ret1 rfl (by rfl), ?_⟩
      rw [hcc]
      exact ⟨h.still hs1, hs1.below _, hs1.size⟩
end Go.Proofs
