/- slices.DeleteFunc over whole numbers, on a slice that the call owns. -/
import Derived.Test.YteifmffmadnifaaA1
import Derived.Test.YteifmffmadnifaaA7
import Derived.Test.YteifmffmadnifaaH11
namespace Go.Fw
open Go Go.RowKit
/-- The head of an owned slice is owned. -/
theorem Own.take {lo n c : Nat} {e : TypeId} {w : World} {a : Option Addr} {us : List Value} (h : Own lo e w (.slice a n c) us) {i : Nat} (hi : i ≤ n) : Own lo e w (.slice a i c) (us.take i) := by
  have hul : us.length = n := by obtain ⟨_, _, hv, _⟩ := h.shape; simp only [Value.slice.injEq] at hv; omega
  have hl : (us.take i).length = i := by rw [List.length_take]; omega
  unfold Own at h ⊢
  rw [hl]
  obtain ⟨_, ⟨he, h0⟩ | ⟨g', cap, cur, he, hbg, hg, hnc, hcm, hcs, htake⟩⟩ := h
  · simp only [Value.slice.injEq] at he
    obtain ⟨rfl, rfl, rfl⟩ := he
    obtain rfl : i = 0 := by omega
    exact ⟨by simp, .inl ⟨rfl, rfl⟩⟩
  · simp only [Value.slice.injEq] at he
    obtain ⟨rfl, hn', rfl⟩ := he
    refine ⟨by omega, .inr ⟨g', c, cur, rfl, hbg, hg, by omega, hcm, hcs, ?_⟩⟩
    rw [Nat.mul_one] at htake ⊢
    rw [← htake, List.take_take]
    congr 1
    omega
end Go.Fw
namespace Go.Rk
open Go.Fw Go.Proofs
theorem idxFrom_spec (p : Int → Bool) (xs : List Int) (s : Nat) : (idxFrom p (s : Int) xs = -1 ∧ (xs.filter fun x => !p x) = xs) ∨
    ∃ k, ∃ h : k < xs.length, idxFrom p (s : Int) xs = ((s + k : Nat) : Int) ∧ p xs[k] = true ∧ ((xs.take (k + 1)).filter fun x => !p x) = xs.take k := by
  induction xs generalizing s with
  | nil => exact Or.inl ⟨rfl, rfl⟩
  | cons x xs ih =>
    unfold idxFrom
    cases hx : p x with
    | true =>
      refine Or.inr ⟨0, by simp, by simp, by simpa using hx, by simp [hx]⟩
    | false =>
      have e : ((s : Nat) : Int) + 1 = ((s + 1 : Nat) : Int) := by omega
      rw [if_neg (by decide), e]
      rcases ih (s + 1) with ⟨h1, h2⟩ | ⟨k, hk, h1, h2, h3⟩
      · exact Or.inl ⟨h1, by rw [List.filter_cons, hx]; simpa using h2⟩
      · refine Or.inr ⟨k + 1, by simp; omega, by rw [h1]; omega, by simpa using h2, ?_⟩
        rw [List.take_succ_cons, List.filter_cons, hx]
        simpa using h3
theorem del_keep {p : Int → Bool} {xs ys : List Int} {i j : Nat} (hj : j < xs.length) (hl : ys.length = xs.length) (hi : ys.take i = (xs.take j).filter fun x => !p x) (hij : i ≤ j) (hd : ys.drop j = xs.drop j) (hp : p xs[j] = false) :
    (ys.set i xs[j]).take (i + 1) = ((xs.take (j + 1)).filter fun x => !p x) ∧ (ys.set i xs[j]).drop (j + 1) = xs.drop (j + 1) := by
  constructor
  · rw [List.take_succ_eq_append_getElem hj, List.filter_append, ← hi]
    have e : (List.filter (fun x => !p x) [xs[j]]) = [xs[j]] := by simp [hp]
    rw [e, List.take_set, List.take_succ_eq_append_getElem (show i < ys.length by omega), List.set_append]
    have hlen : (ys.take i).length = i := by rw [List.length_take]; omega
    rw [if_neg (by omega), hlen, Nat.sub_self]
    rfl
  · rw [List.drop_set, if_pos (by omega)]
    have := congrArg (List.drop 1) hd
    rwa [List.drop_drop, List.drop_drop] at this
theorem del_skip {p : Int → Bool} {xs ys : List Int} {i j : Nat} (hj : j < xs.length) (hi : ys.take i = (xs.take j).filter fun x => !p x) (hd : ys.drop j = xs.drop j) (hp : p xs[j] = true) :
    ys.take i = ((xs.take (j + 1)).filter fun x => !p x) ∧ ys.drop (j + 1) = xs.drop (j + 1) := by
  constructor
  · rw [List.take_succ_eq_append_getElem hj, List.filter_append, ← hi]
    simp [hp]
  · have := congrArg (List.drop 1) hd
    rwa [List.drop_drop, List.drop_drop] at this
end Go.Rk
namespace Go.Proofs
open Go Go.Fw Go.RowKit Go.Rk
theorem DeleteFunc_any {lo : Nat} {w : World} {v : Value} {xs : List Int} {f : FuncId} [FuncTy Try.prog f] {cap : List Value} (p : Int → Bool) (h : Own lo 2 w v (Ints xs))
    (hp : ∀ x ∈ xs, ∀ w', w'.heap.size = w.heap.size → (∀ k, v.ownBlock ≠ some k → w'.heap[k]? = w.heap[k]?) → Does Try.prog f ([.int .i64 x] ++ cap) w' fun r w'' => r = .bool (p x) ∧ Still w' w'') :
    Does Try.prog 122 [v, .func (.func f) #[] cap.toArray] w fun r w' => Own lo 2 w' r (Ints (xs.filter fun x => !p x)) ∧ Below lo w w' ∧ w'.heap.size = w.heap.size ∧ (∀ k, v.ownBlock ≠ some k → w'.heap[k]? = w.heap[k]?) ∧ r.ownBlock = v.ownBlock := by
  obtain ⟨a, c, hv, _⟩ := h.shape
  rw [Ints_length] at hv
  subst hv
  have hIS := Own.is h
  have hm := hIS.len
  unfold maxLen at hm
  refine Does.enter Try.func122 Try.ntmps122 rfl (by rfl) ?_
  repeat' (first | refine WL.step (o_s (by rfl) ?_) | refine WL.step (o_len (by rfl) ?_) | refine WL.step (o_add (by rfl) (by rfl) (by unfold InI; omega) ?_) | refine WL.step (o_sub (by rfl) (by rfl) (by unfold InI; omega) ?_) | refine WL.step (OpW.pass (by rfl) ?_) | refine WL.nil ?_ | refine thenN ?_ | refine WP.region ?_ | refine WP.seq ?_ | refine WP.block ?_ | refine thenR ?_ | refine thenX ?_ | refine blkN ?_ | refine blkHit ?_ | refine blkR ?_ | refine blkMiss (by rfl) ?_ | refine WP.ret ?_ | refine WP.exit ?_ | refine WP.skip ?_ | refine WP.label ?_ | refine WP.condT (by rfl) ?_ | refine WP.condF (by rfl) ?_ | fail)
  refine WL.call (IndexFunc_int p hIS (fun x hx w' hs => hp x hx w' hs.size (fun k _ => by rw [hs.heap]))) ?_
  rintro _ w1 ⟨rfl, hs1⟩
  have hown1 := h.still hs1
  rcases idxFrom_spec p xs 0 with ⟨h1, h2⟩ | ⟨k0, hk0, h1, h2, h3⟩
  · have h1' : idxFrom p 0 xs = -1 := h1
    rw [h1']
    repeat' (first | refine WL.step (o_s (by rfl) ?_) | refine WL.step (o_len (by rfl) ?_) | refine WL.step (o_add (by rfl) (by rfl) (by unfold InI; omega) ?_) | refine WL.step (o_sub (by rfl) (by rfl) (by unfold InI; omega) ?_) | refine WL.step (OpW.pass (by rfl) ?_) | refine WL.nil ?_ | refine thenN ?_ | refine WP.region ?_ | refine WP.seq ?_ | refine WP.block ?_ | refine thenR ?_ | refine thenX ?_ | refine blkN ?_ | refine blkHit ?_ | refine blkR ?_ | refine blkMiss (by rfl) ?_ | refine WP.ret ?_ | refine WP.exit ?_ | refine WP.skip ?_ | refine WP.label ?_ | refine WP.condT (by rfl) ?_ | refine WP.condF (by rfl) ?_ | fail)
    refine ⟨_, ret1 rfl (by rfl), ?_⟩
    rw [h2]
    exact ⟨hown1, hs1.below _, hs1.size, fun k _ => by rw [hs1.heap], rfl⟩
  · have h1' : idxFrom p 0 xs = ((k0 : Nat) : Int) := by rw [Nat.zero_add] at h1; exact h1
    rw [h1']
    repeat' (first | refine WL.step (o_s (by rfl) ?_) | refine WL.step (o_len (by rfl) ?_) | refine WL.step (o_add (by rfl) (by rfl) (by unfold InI; omega) ?_) | refine WL.step (o_sub (by rfl) (by rfl) (by unfold InI; omega) ?_) | refine WL.step (OpW.pass (by rfl) ?_) | refine WL.nil ?_ | refine thenN ?_ | refine WP.region ?_ | refine WP.seq ?_ | refine WP.block ?_ | refine thenR ?_ | refine thenX ?_ | refine blkN ?_ | refine blkHit ?_ | refine blkR ?_ | refine blkMiss (by rfl) ?_ | refine WP.ret ?_ | refine WP.exit ?_ | refine WP.skip ?_ | refine WP.label ?_ | refine WP.condT (by rfl) ?_ | refine WP.condF (by rfl) ?_ | fail)
    · refine WP.loop (fun (s : Nat × Nat × List Int) => [(0, .slice a xs.length c), (1, .func (.func f) #[] cap.toArray), (5, .int .i64 (s.1 : Nat)), (6, .int .i64 (s.2.1 : Nat))])
        (fun s w2 => s.2.1 ≤ xs.length ∧ s.1 ≤ s.2.1 ∧ s.2.2.length = xs.length ∧ s.2.2.take s.1 = ((xs.take s.2.1).filter fun x => !p x) ∧ s.2.2.drop s.2.1 = xs.drop s.2.1 ∧ Own lo 2 w2 (.slice a xs.length c) (Ints s.2.2) ∧ Below lo w1 w2 ∧ w2.heap.size = w1.heap.size ∧ ∀ k, (Value.slice a xs.length c).ownBlock ≠ some k → w2.heap[k]? = w1.heap[k]?)
        (fun s => xs.length - s.2.1) (k0, k0 + 1, xs) ⟨rfl, rfl, rfl, (by first | rfl | (show some (Value.int .i64 _) = some (Value.int .i64 _); refine congrArg some (congrArg (Value.int IntKind.i64) ?_); omega)), trivial⟩ ⟨by dsimp only; omega, by dsimp only; omega, rfl, h3.symm, rfl, hown1, Below.refl _ _, rfl, fun _ _ => rfl⟩ ?_
      rintro ⟨i, j, ys⟩ w2 ⟨hj1, hij, hl, hi, hd, hown2, hbl2, hz2, hk2⟩
      dsimp only at hj1 hij hl hi hd hown2 ⊢
      repeat' (first | refine WL.step (o_s (by rfl) ?_) | refine WL.step (o_len (by rfl) ?_) | refine WL.step (o_add (by rfl) (by rfl) (by unfold InI; omega) ?_) | refine WL.step (o_sub (by rfl) (by rfl) (by unfold InI; omega) ?_) | refine WL.step (OpW.pass (by rfl) ?_) | refine WL.nil ?_ | refine thenN ?_ | refine WP.region ?_ | refine WP.seq ?_ | refine WP.block ?_ | refine thenR ?_ | refine thenX ?_ | refine blkN ?_ | refine blkHit ?_ | refine blkR ?_ | refine blkMiss (by rfl) ?_ | refine WP.ret ?_ | refine WP.exit ?_ | refine WP.skip ?_ | refine WP.label ?_ | refine WP.condT (by rfl) ?_ | refine WP.condF (by rfl) ?_ | fail)
      first | refine WP.condD (by rfl) (fun _ => ?_) (fun _ => ?_) | refine WP.condND (by rfl) (fun _ => ?_) (fun _ => ?_) | refine WP.condN (by rfl) (fun _ => ?_) (fun _ => ?_) | refine WP.cond (by rfl) (fun _ => ?_) (fun _ => ?_) | fail
      · rename_i hlt
        have hlj : j < xs.length := by omega
        have hyj : ys[j]'(by omega) = xs[j] := by
          have := congrArg (·[0]?) hd
          simp only [List.getElem?_drop, Nat.add_zero] at this
          rw [List.getElem?_eq_getElem (by omega), List.getElem?_eq_getElem hlj] at this
          exact Option.some.inj this
        repeat' (first | refine WL.step (o_s (by rfl) ?_) | refine WL.step (o_len (by rfl) ?_) | refine WL.step (o_add (by rfl) (by rfl) (by unfold InI; omega) ?_) | refine WL.step (o_sub (by rfl) (by rfl) (by unfold InI; omega) ?_) | refine WL.step (OpW.pass (by rfl) ?_) | refine WL.nil ?_ | refine thenN ?_ | refine WP.region ?_ | refine WP.seq ?_ | refine WP.block ?_ | refine thenR ?_ | refine thenX ?_ | refine blkN ?_ | refine blkHit ?_ | refine blkR ?_ | refine blkMiss (by rfl) ?_ | refine WP.ret ?_ | refine WP.exit ?_ | refine WP.skip ?_ | refine WP.label ?_ | refine WP.condT (by rfl) ?_ | refine WP.condF (by rfl) ?_ | fail)
        refine WL.ixload (Own.is hown2) (List.getElem?_eq_getElem (show j < ys.length by omega)) ?_
        rintro p1 _ rfl
        rw [hyj]
        repeat' (first | refine WL.step (o_s (by rfl) ?_) | refine WL.step (o_len (by rfl) ?_) | refine WL.step (o_add (by rfl) (by rfl) (by unfold InI; omega) ?_) | refine WL.step (o_sub (by rfl) (by rfl) (by unfold InI; omega) ?_) | refine WL.step (OpW.pass (by rfl) ?_) | refine WL.nil ?_ | refine thenN ?_ | refine WP.region ?_ | refine WP.seq ?_ | refine WP.block ?_ | refine thenR ?_ | refine thenX ?_ | refine blkN ?_ | refine blkHit ?_ | refine blkR ?_ | refine blkMiss (by rfl) ?_ | refine WP.ret ?_ | refine WP.exit ?_ | refine WP.skip ?_ | refine WP.label ?_ | refine WP.condT (by rfl) ?_ | refine WP.condF (by rfl) ?_ | fail)
        refine WL.step (o_callV (f := f) (fst := []) (cap := cap) (by rfl) (hp _ (List.getElem_mem hlj) w2 (by rw [hz2, hs1.size]) (fun k hk => by rw [hk2 k hk, hs1.heap])) ?_)
        rintro _ w3 ⟨rfl, hs3⟩
        have hown3 := hown2.still hs3
        repeat' (first | refine WL.step (o_s (by rfl) ?_) | refine WL.step (o_len (by rfl) ?_) | refine WL.step (o_add (by rfl) (by rfl) (by unfold InI; omega) ?_) | refine WL.step (o_sub (by rfl) (by rfl) (by unfold InI; omega) ?_) | refine WL.step (OpW.pass (by rfl) ?_) | refine WL.nil ?_ | refine thenN ?_ | refine WP.region ?_ | refine WP.seq ?_ | refine WP.block ?_ | refine thenR ?_ | refine thenX ?_ | refine blkN ?_ | refine blkHit ?_ | refine blkR ?_ | refine blkMiss (by rfl) ?_ | refine WP.ret ?_ | refine WP.exit ?_ | refine WP.skip ?_ | refine WP.label ?_ | refine WP.condT (by rfl) ?_ | refine WP.condF (by rfl) ?_ | fail)
        first | refine WP.condD (by rfl) (fun _ => ?_) (fun _ => ?_) | refine WP.condND (by rfl) (fun _ => ?_) (fun _ => ?_) | refine WP.condN (by rfl) (fun _ => ?_) (fun _ => ?_) | refine WP.cond (by rfl) (fun _ => ?_) (fun _ => ?_) | fail
        · rename_i hpx
          obtain ⟨e1, e2⟩ := del_keep hlj hl hi hij hd hpx
          repeat' (first | refine WL.step (o_s (by rfl) ?_) | refine WL.step (o_len (by rfl) ?_) | refine WL.step (o_add (by rfl) (by rfl) (by unfold InI; omega) ?_) | refine WL.step (o_sub (by rfl) (by rfl) (by unfold InI; omega) ?_) | refine WL.step (OpW.pass (by rfl) ?_) | refine WL.nil ?_ | refine thenN ?_ | refine WP.region ?_ | refine WP.seq ?_ | refine WP.block ?_ | refine thenR ?_ | refine thenX ?_ | refine blkN ?_ | refine blkHit ?_ | refine blkR ?_ | refine blkMiss (by rfl) ?_ | refine WP.ret ?_ | refine WP.exit ?_ | refine WP.skip ?_ | refine WP.label ?_ | refine WP.condT (by rfl) ?_ | refine WP.condF (by rfl) ?_ | fail)
          refine WL.ixstore (j := i) hown3 (by rw [Ints_length]; omega) ?_
          intro p2 w4 hown4 hbl4 hz4 hk4
          rw [Ints_set] at hown4
          repeat' (first | refine WL.step (o_s (by rfl) ?_) | refine WL.step (o_len (by rfl) ?_) | refine WL.step (o_add (by rfl) (by rfl) (by unfold InI; omega) ?_) | refine WL.step (o_sub (by rfl) (by rfl) (by unfold InI; omega) ?_) | refine WL.step (OpW.pass (by rfl) ?_) | refine WL.nil ?_ | refine thenN ?_ | refine WP.region ?_ | refine WP.seq ?_ | refine WP.block ?_ | refine thenR ?_ | refine thenX ?_ | refine blkN ?_ | refine blkHit ?_ | refine blkR ?_ | refine blkMiss (by rfl) ?_ | refine WP.ret ?_ | refine WP.exit ?_ | refine WP.skip ?_ | refine WP.label ?_ | refine WP.condT (by rfl) ?_ | refine WP.condF (by rfl) ?_ | fail)
          exact ⟨(i + 1, j + 1, ys.set i xs[j]), ⟨rfl, rfl, (by first | rfl | (show some (Value.int .i64 _) = some (Value.int .i64 _); refine congrArg some (congrArg (Value.int IntKind.i64) ?_); omega)), (by first | rfl | (show some (Value.int .i64 _) = some (Value.int .i64 _); refine congrArg some (congrArg (Value.int IntKind.i64) ?_); omega)), trivial⟩, ⟨by dsimp only; omega, by dsimp only; omega, by rw [List.length_set]; exact hl, e1, e2, hown4, (hbl2.trans (hs3.below _)).trans hbl4, by rw [hz4, hs3.size, hz2], fun k hk => by rw [hk4 k hk, hs3.heap, hk2 k hk]⟩, by dsimp only; omega⟩
        · rename_i hpx
          obtain ⟨e1, e2⟩ := del_skip hlj hi hd hpx
          repeat' (first | refine WL.step (o_s (by rfl) ?_) | refine WL.step (o_len (by rfl) ?_) | refine WL.step (o_add (by rfl) (by rfl) (by unfold InI; omega) ?_) | refine WL.step (o_sub (by rfl) (by rfl) (by unfold InI; omega) ?_) | refine WL.step (OpW.pass (by rfl) ?_) | refine WL.nil ?_ | refine thenN ?_ | refine WP.region ?_ | refine WP.seq ?_ | refine WP.block ?_ | refine thenR ?_ | refine thenX ?_ | refine blkN ?_ | refine blkHit ?_ | refine blkR ?_ | refine blkMiss (by rfl) ?_ | refine WP.ret ?_ | refine WP.exit ?_ | refine WP.skip ?_ | refine WP.label ?_ | refine WP.condT (by rfl) ?_ | refine WP.condF (by rfl) ?_ | fail)
          exact ⟨(i, j + 1, ys), ⟨rfl, rfl, rfl, (by first | rfl | (show some (Value.int .i64 _) = some (Value.int .i64 _); refine congrArg some (congrArg (Value.int IntKind.i64) ?_); omega)), trivial⟩, ⟨by dsimp only; omega, by dsimp only; omega, hl, e1, e2, hown3, hbl2.trans (hs3.below _), by rw [hs3.size, hz2], fun k hk => by rw [hs3.heap, hk2 k hk]⟩, by dsimp only; omega⟩
      · rename_i hge
        have hje : j = xs.length := by omega
        rw [hje, List.take_length] at hi
        repeat' (first | refine WL.step (o_s (by rfl) ?_) | refine WL.step (o_len (by rfl) ?_) | refine WL.step (o_add (by rfl) (by rfl) (by unfold InI; omega) ?_) | refine WL.step (o_sub (by rfl) (by rfl) (by unfold InI; omega) ?_) | refine WL.step (OpW.pass (by rfl) ?_) | refine WL.nil ?_ | refine thenN ?_ | refine WP.region ?_ | refine WP.seq ?_ | refine WP.block ?_ | refine thenR ?_ | refine thenX ?_ | refine blkN ?_ | refine blkHit ?_ | refine blkR ?_ | refine blkMiss (by rfl) ?_ | refine WP.ret ?_ | refine WP.exit ?_ | refine WP.skip ?_ | refine WP.label ?_ | refine WP.condT (by rfl) ?_ | refine WP.condF (by rfl) ?_ | fail)
        refine WL.step (o_sliceL (i := i) (by rfl) (by rfl) (by omega) ?_)
        refine WL.step (o_clear (i := i) (by rfl) hown2 (by omega) (by rfl) ?_)
        intro w3 hown3 hbl3 hz3 hk3
        repeat' (first | refine WL.step (o_s (by rfl) ?_) | refine WL.step (o_len (by rfl) ?_) | refine WL.step (o_add (by rfl) (by rfl) (by unfold InI; omega) ?_) | refine WL.step (o_sub (by rfl) (by rfl) (by unfold InI; omega) ?_) | refine WL.step (OpW.pass (by rfl) ?_) | refine WL.nil ?_ | refine thenN ?_ | refine WP.region ?_ | refine WP.seq ?_ | refine WP.block ?_ | refine thenR ?_ | refine thenX ?_ | refine blkN ?_ | refine blkHit ?_ | refine blkR ?_ | refine blkMiss (by rfl) ?_ | refine WP.ret ?_ | refine WP.exit ?_ | refine WP.skip ?_ | refine WP.label ?_ | refine WP.condT (by rfl) ?_ | refine WP.condF (by rfl) ?_ | fail)
        refine WL.step (o_sliceH (i := i) (by rfl) (by rfl) (by have := hIS.shapeC; obtain ⟨_, _, e, hc⟩ := this; simp only [Value.slice.injEq] at e; omega) ?_)
        repeat' (first | refine WL.step (o_s (by rfl) ?_) | refine WL.step (o_len (by rfl) ?_) | refine WL.step (o_add (by rfl) (by rfl) (by unfold InI; omega) ?_) | refine WL.step (o_sub (by rfl) (by rfl) (by unfold InI; omega) ?_) | refine WL.step (OpW.pass (by rfl) ?_) | refine WL.nil ?_ | refine thenN ?_ | refine WP.region ?_ | refine WP.seq ?_ | refine WP.block ?_ | refine thenR ?_ | refine thenX ?_ | refine blkN ?_ | refine blkHit ?_ | refine blkR ?_ | refine blkMiss (by rfl) ?_ | refine WP.ret ?_ | refine WP.exit ?_ | refine WP.skip ?_ | refine WP.label ?_ | refine WP.condT (by rfl) ?_ | refine WP.condF (by rfl) ?_ | fail)
        refine ⟨_, ret1 rfl (by rfl), ?_⟩
        have hf := hown3.take (i := i) (by omega)
        have e3 : ((Ints ys).take i ++ List.replicate (xs.length - i) (Value.int .i64 0)).take i = Ints (xs.filter fun x => !p x) := by
          have hyl : ((Ints ys).take i).length = i := by rw [List.length_take, Ints_length]; omega
          rw [List.take_append_of_le_length (by omega), List.take_of_length_le (by omega), ← hi]
          simp [Ints, List.map_take]
        rw [e3] at hf
        exact ⟨hf, ((hs1.below _).trans hbl2).trans hbl3, by rw [hz3, hz2, hs1.size], fun k hk => by rw [hk3 k hk, hk2 k hk, hs1.heap], by cases a <;> rfl⟩
end Go.Proofs
