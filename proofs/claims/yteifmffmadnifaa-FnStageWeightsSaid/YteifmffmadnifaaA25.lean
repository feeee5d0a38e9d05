/- A slice of ones by repetition. -/
import Derived.Test.YteifmffmadnifaaA24
namespace Go.Proofs
open Go Go.Fw Go.RowKit Go.Rk
theorem addr_add0 (g j : Nat) : (⟨g, 0, none⟩ : Addr).add j = ⟨g, j, none⟩ := by unfold Addr.add; split <;> simp_all
theorem onesZeros_step {n m : Nat} (h : m < n) : (List.replicate m (1 : Int) ++ List.replicate (n - m) 0).take m ++ List.replicate (Nat.min m (n - m)) 1 ++ (List.replicate m (1 : Int) ++ List.replicate (n - m) 0).drop (m + Nat.min m (n - m)) = List.replicate (m + Nat.min m (n - m)) 1 ++ List.replicate (n - (m + Nat.min m (n - m))) 0 := by
  have e1 : (List.replicate m (1 : Int) ++ List.replicate (n - m) 0).take m = List.replicate m 1 := by
    rw [List.take_append_of_le_length (by simp)]; simp
  have e2 : (List.replicate m (1 : Int) ++ List.replicate (n - m) 0).drop (m + Nat.min m (n - m)) = List.replicate (n - (m + Nat.min m (n - m))) 0 := by
    rw [List.drop_append]
    simp
    omega
  rw [e1, e2, List.replicate_append_replicate]
theorem Repeat_one {lo hi : Nat} {w : World} {v : Value} (n : Nat) (h : IS lo hi w v [1]) (h0 : 1 ≤ n) (h1 : n ≤ 8) : Does Try.prog 154 [v, .int .i64 (n : Nat)] w fun r w' => NewI w r w' (List.replicate n 1) := by
  have hz := h.hi_le
  obtain ⟨_, ad, cd, hv, _, _, hel⟩ := h
  obtain ⟨b, o, u, had, hlo, hhi, hcell, hu⟩ := hel 0 1 rfl
  unfold RI at hu
  subst hu had hv
  refine Does.enter Try.func154 Try.ntmps154 rfl (by rfl) ?_
  repeat' (first | refine WL.step (o_s (by rfl) ?_) | refine WL.step (o_len (by rfl) ?_) | refine WL.step (o_add (by rfl) (by rfl) (by unfold InI; omega) ?_) | refine WL.step (o_sub (by rfl) (by rfl) (by unfold InI; omega) ?_) | refine WL.step (OpW.pass (by rfl) ?_) | refine WL.nil ?_ | refine thenN ?_ | refine WP.region ?_ | refine WP.seq ?_ | refine WP.block ?_ | refine thenR ?_ | refine thenX ?_ | refine blkN ?_ | refine blkHit ?_ | refine blkR ?_ | refine blkMiss (by rfl) ?_ | refine WP.ret ?_ | refine WP.exit ?_ | refine WP.skip ?_ | refine WP.label ?_ | refine WP.condT (by rfl) ?_ | refine WP.condF (by rfl) ?_ | fail)
  refine WL.step (o_convK (b := ((1 : Nat) : Int)) (by rfl) (wrap_u64 (by simp) (by simp)) ?_)
  repeat' (first | refine WL.step (o_s (by rfl) ?_) | refine WL.step (o_len (by rfl) ?_) | refine WL.step (o_add (by rfl) (by rfl) (by unfold InI; omega) ?_) | refine WL.step (o_sub (by rfl) (by rfl) (by unfold InI; omega) ?_) | refine WL.step (OpW.pass (by rfl) ?_) | refine WL.nil ?_ | refine thenN ?_ | refine WP.region ?_ | refine WP.seq ?_ | refine WP.block ?_ | refine thenR ?_ | refine thenX ?_ | refine blkN ?_ | refine blkHit ?_ | refine blkR ?_ | refine blkMiss (by rfl) ?_ | refine WP.ret ?_ | refine WP.exit ?_ | refine WP.skip ?_ | refine WP.label ?_ | refine WP.condT (by rfl) ?_ | refine WP.condF (by rfl) ?_ | fail)
  refine WL.step (o_convK (b := (n : Nat)) (by rfl) (wrap_u64 (by omega) (by omega)) ?_)
  refine WL.call (Mul_small n h1 _) ?_
  rintro _ _ ⟨rfl, rfl⟩
  repeat' (first | refine WL.step (o_s (by rfl) ?_) | refine WL.step (o_len (by rfl) ?_) | refine WL.step (o_add (by rfl) (by rfl) (by unfold InI; omega) ?_) | refine WL.step (o_sub (by rfl) (by rfl) (by unfold InI; omega) ?_) | refine WL.step (OpW.pass (by rfl) ?_) | refine WL.nil ?_ | refine thenN ?_ | refine WP.region ?_ | refine WP.seq ?_ | refine WP.block ?_ | refine thenR ?_ | refine thenX ?_ | refine blkN ?_ | refine blkHit ?_ | refine blkR ?_ | refine blkMiss (by rfl) ?_ | refine WP.ret ?_ | refine WP.exit ?_ | refine WP.skip ?_ | refine WP.label ?_ | refine WP.condT (by rfl) ?_ | refine WP.condF (by rfl) ?_ | fail)
  refine WL.step (o_cmpU (op := .gtr) (a := 0) (b := 0) (r := false) (by rfl) (by rfl) (by rfl) ?_)
  repeat' (first | refine WL.step (o_s (by rfl) ?_) | refine WL.step (o_len (by rfl) ?_) | refine WL.step (o_add (by rfl) (by rfl) (by unfold InI; omega) ?_) | refine WL.step (o_sub (by rfl) (by rfl) (by unfold InI; omega) ?_) | refine WL.step (OpW.pass (by rfl) ?_) | refine WL.nil ?_ | refine thenN ?_ | refine WP.region ?_ | refine WP.seq ?_ | refine WP.block ?_ | refine thenR ?_ | refine thenX ?_ | refine blkN ?_ | refine blkHit ?_ | refine blkR ?_ | refine blkMiss (by rfl) ?_ | refine WP.ret ?_ | refine WP.exit ?_ | refine WP.skip ?_ | refine WP.label ?_ | refine WP.condT (by rfl) ?_ | refine WP.condF (by rfl) ?_ | fail)
  refine WL.step (o_cmpU (op := .gtr) (a := (n : Nat)) (b := 9223372036854775807) (r := false) (by show some (decide _) = some false; rw [decide_eq_false (by omega)]) (by rfl) (by rfl) ?_)
  repeat' (first | refine WL.step (o_s (by rfl) ?_) | refine WL.step (o_len (by rfl) ?_) | refine WL.step (o_add (by rfl) (by rfl) (by unfold InI; omega) ?_) | refine WL.step (o_sub (by rfl) (by rfl) (by unfold InI; omega) ?_) | refine WL.step (OpW.pass (by rfl) ?_) | refine WL.nil ?_ | refine thenN ?_ | refine WP.region ?_ | refine WP.seq ?_ | refine WP.block ?_ | refine thenR ?_ | refine thenX ?_ | refine blkN ?_ | refine blkHit ?_ | refine blkR ?_ | refine blkMiss (by rfl) ?_ | refine WP.ret ?_ | refine WP.exit ?_ | refine WP.skip ?_ | refine WP.label ?_ | refine WP.condT (by rfl) ?_ | refine WP.condF (by rfl) ?_ | fail)
  refine WL.step (o_convK (b := (n : Nat)) (by rfl) (wrap_in (by unfold InI; omega)) ?_)
  refine WL.step (o_make (n := n) (by rfl) (by rfl) (by omega) (by unfold maxLen; omega) ?_)
  intro v1 w1 hown1 hbl1 hz1
  have e0 : List.replicate n (Value.int .i64 0) = Ints (List.replicate n 0) := by simp [Ints]
  rw [e0] at hown1
  obtain ⟨g, c, hv1, hg1, hg2, _, _, _⟩ := hown1.cell (i := 0) (u := .int .i64 0) (by rw [Ints_get, List.getElem?_replicate, if_pos (by omega)]; rfl)
  rw [Ints_length, List.length_replicate] at hv1
  subst hv1
  have hc := hown1.shape
  repeat' (first | refine WL.step (o_s (by rfl) ?_) | refine WL.step (o_len (by rfl) ?_) | refine WL.step (o_add (by rfl) (by rfl) (by unfold InI; omega) ?_) | refine WL.step (o_sub (by rfl) (by rfl) (by unfold InI; omega) ?_) | refine WL.step (OpW.pass (by rfl) ?_) | refine WL.nil ?_ | refine thenN ?_ | refine WP.region ?_ | refine WP.seq ?_ | refine WP.block ?_ | refine thenR ?_ | refine thenX ?_ | refine blkN ?_ | refine blkHit ?_ | refine blkR ?_ | refine blkMiss (by rfl) ?_ | refine WP.ret ?_ | refine WP.exit ?_ | refine WP.skip ?_ | refine WP.label ?_ | refine WP.condT (by rfl) ?_ | refine WP.condF (by rfl) ?_ | fail)
  refine WL.step (o_copy (cs := Ints [1]) (us := Ints (List.replicate n 0)) (by rfl) (by rfl) hown1 (by show 1 = Nat.min 1 n; exact (Nat.min_eq_left h0).symm) (fun j x hx => ?_) (by simp [Ints]; omega) Ints_one ?_)
  · cases j with
    | zero =>
      simp [Ints] at hx
      subst hx
      have e1 : (⟨b, o, none⟩ : Addr).add 0 = ⟨b, o + 0, none⟩ := by unfold Addr.add; split <;> simp_all
      rw [e1, World.cell?_of_block (hbl1.block b (by omega))]
      exact hcell
    | succ j => simp [Ints] at hx
  intro w2 hown2 hbl2 hz2
  have e2 : (Ints (List.replicate n 0)).take 0 ++ Ints [1] ++ (Ints (List.replicate n 0)).drop (0 + (Ints [1]).length) = Ints (List.replicate 1 1 ++ List.replicate (n - 1) 0) := by simp [Ints]
  rw [e2] at hown2
  have hB2 := hbl1.trans hbl2
  repeat' (first | refine WL.step (o_s (by rfl) ?_) | refine WL.step (o_len (by rfl) ?_) | refine WL.step (o_add (by rfl) (by rfl) (by unfold InI; omega) ?_) | refine WL.step (o_sub (by rfl) (by rfl) (by unfold InI; omega) ?_) | refine WL.step (OpW.pass (by rfl) ?_) | refine WL.nil ?_ | refine thenN ?_ | refine WP.region ?_ | refine WP.seq ?_ | refine WP.block ?_ | refine thenR ?_ | refine thenX ?_ | refine blkN ?_ | refine blkHit ?_ | refine blkR ?_ | refine blkMiss (by rfl) ?_ | refine WP.ret ?_ | refine WP.exit ?_ | refine WP.skip ?_ | refine WP.label ?_ | refine WP.condT (by rfl) ?_ | refine WP.condF (by rfl) ?_ | fail)
  refine WP.loop (fun (m : Nat) => [(7, .slice (some ⟨g, 0, none⟩) n c), (8, .int .i64 (m : Nat))])
    (fun m w3 => (1 ≤ m ∧ m ≤ n) ∧ Own w.heap.size 2 w3 (.slice (some ⟨g, 0, none⟩) n c) (Ints (List.replicate m 1 ++ List.replicate (n - m) 0)) ∧ Below w.heap.size w w3)
    (fun m => n - m) 1 ⟨rfl, rfl, trivial⟩ ⟨by omega, hown2, hB2⟩ ?_
  rintro m w3 ⟨hm, hown3, hbl3⟩
  repeat' (first | refine WL.step (o_s (by rfl) ?_) | refine WL.step (o_len (by rfl) ?_) | refine WL.step (o_add (by rfl) (by rfl) (by unfold InI; omega) ?_) | refine WL.step (o_sub (by rfl) (by rfl) (by unfold InI; omega) ?_) | refine WL.step (OpW.pass (by rfl) ?_) | refine WL.nil ?_ | refine thenN ?_ | refine WP.region ?_ | refine WP.seq ?_ | refine WP.block ?_ | refine thenR ?_ | refine thenX ?_ | refine blkN ?_ | refine blkHit ?_ | refine blkR ?_ | refine blkMiss (by rfl) ?_ | refine WP.ret ?_ | refine WP.exit ?_ | refine WP.skip ?_ | refine WP.label ?_ | refine WP.condT (by rfl) ?_ | refine WP.condF (by rfl) ?_ | fail)
  first | refine WP.condD (by rfl) (fun _ => ?_) (fun _ => ?_) | refine WP.condND (by rfl) (fun _ => ?_) (fun _ => ?_) | refine WP.condN (by rfl) (fun _ => ?_) (fun _ => ?_) | refine WP.cond (by rfl) (fun _ => ?_) (fun _ => ?_) | fail
  · rename_i hlt
    have hltm : m < n := by omega
    have hcn : n ≤ c := by
      obtain ⟨a', c', he, hle, _⟩ := hown3.shape
      simp only [Value.slice.injEq] at he
      rw [← he.2.1] at hle
      omega
    repeat' (first | refine WL.step (o_s (by rfl) ?_) | refine WL.step (o_len (by rfl) ?_) | refine WL.step (o_add (by rfl) (by rfl) (by unfold InI; omega) ?_) | refine WL.step (o_sub (by rfl) (by rfl) (by unfold InI; omega) ?_) | refine WL.step (OpW.pass (by rfl) ?_) | refine WL.nil ?_ | refine thenN ?_ | refine WP.region ?_ | refine WP.seq ?_ | refine WP.block ?_ | refine thenR ?_ | refine thenX ?_ | refine blkN ?_ | refine blkHit ?_ | refine blkR ?_ | refine blkMiss (by rfl) ?_ | refine WP.ret ?_ | refine WP.exit ?_ | refine WP.skip ?_ | refine WP.label ?_ | refine WP.condT (by rfl) ?_ | refine WP.condF (by rfl) ?_ | fail)
    refine WP.drawn (fun w' => Below w.heap.size w w') [(0, true), (1, true), (2, true), (3, true), (4, true), (5, true), (6, true), (7, false), (8, true), (9, true)] (by kernel_rfl) mixed ?_
    intro w4 hs4
    have hS4 : Below w.heap.size w w4 := hbl3.trans (hs4.below _)
    have hown4 := hown3.still hs4
    repeat' (first | refine WS.q rfl (q_s (by rfl)) (by first | rfl | assumption) ?_ | refine WS.q rfl (q_len (by rfl)) (by first | rfl | assumption) ?_ | refine WS.q rfl (q_add (by rfl) (by rfl) (by unfold InI; omega)) (by first | rfl | assumption) ?_ | refine WS.q rfl (q_sub (by rfl) (by rfl) (by unfold InI; omega)) (by first | rfl | assumption) ?_ | refine WS.q rfl (q_pass (by rfl)) (by first | rfl | assumption) ?_ | refine WS.nil ?_ | fail)
    refine WS.q rfl (q_sliceL (i := m) (by rfl) (by rfl) (by omega)) hS4 ?_
    repeat' (first | refine WS.q rfl (q_s (by rfl)) (by first | rfl | assumption) ?_ | refine WS.q rfl (q_len (by rfl)) (by first | rfl | assumption) ?_ | refine WS.q rfl (q_add (by rfl) (by rfl) (by unfold InI; omega)) (by first | rfl | assumption) ?_ | refine WS.q rfl (q_sub (by rfl) (by rfl) (by unfold InI; omega)) (by first | rfl | assumption) ?_ | refine WS.q rfl (q_pass (by rfl)) (by first | rfl | assumption) ?_ | refine WS.nil ?_ | fail)
    refine WS.q rfl (q_sliceH (i := m) (by rfl) (by rfl) (by omega)) hS4 ?_
    have ea : lowAddr (some ⟨g, 0, none⟩) c m = some ⟨g, m, none⟩ := by unfold lowAddr; rw [if_neg (by omega)]; simp [Addr.add]; omega
    rw [ea]
    have hmin : Nat.min m (n - m) ≤ m := Nat.min_le_left _ _
    have hmin2 : Nat.min m (n - m) ≤ n - m := Nat.min_le_right _ _
    have hmin3 : 1 ≤ Nat.min m (n - m) := Nat.le_min.2 ⟨hm.1, by omega⟩
    have hcl : (Ints (List.replicate (Nat.min m (n - m)) 1)).length = Nat.min m (n - m) := by simp [Ints]
    refine WS.op rfl (o_copy (cs := Ints (List.replicate (Nat.min m (n - m)) 1)) (us := Ints (List.replicate m 1 ++ List.replicate (n - m) 0)) (by rfl) (by rfl) hown4 hcl (fun j x hx => ?_) (by rw [hcl, Ints_length, List.length_append, List.length_replicate, List.length_replicate]; omega) Ints_one ?_)
    · have hj : j < Nat.min m (n - m) := by have := (List.getElem?_eq_some_iff.1 hx).1; omega
      have hjm : j < m := by have := Nat.min_le_left m (n - m); show j < m; exact Nat.lt_of_lt_of_le hj this
      rw [Ints_get, List.getElem?_replicate, if_pos hj] at hx
      simp at hx
      subst hx
      obtain ⟨g', c', he, _, _, hcell2, _, _⟩ := hown4.cell (i := j) (u := .int .i64 1) (by rw [Ints_get, List.getElem?_append_left (by simp; exact hjm), List.getElem?_replicate, if_pos hjm]; rfl)
      simp only [Value.slice.injEq, Option.some.injEq, Addr.mk.injEq] at he
      obtain ⟨⟨rfl, _⟩, _, _⟩ := he
      have e1 : (⟨g, 0, none⟩ : Addr).add j = ⟨g, j, none⟩ := addr_add0 g j
      rw [e1]
      exact hcell2
    · intro w5 hown5 hbl5 hz5
      have hS5 := hS4.trans hbl5
      refine ⟨hS5, ?_⟩
      rw [hcl] at hown5 ⊢
      have e3 : (Ints (List.replicate m 1 ++ List.replicate (n - m) 0)).take m ++ Ints (List.replicate (Nat.min m (n - m)) 1) ++ (Ints (List.replicate m 1 ++ List.replicate (n - m) 0)).drop (m + Nat.min m (n - m)) = Ints (List.replicate (m + Nat.min m (n - m)) 1 ++ List.replicate (n - (m + Nat.min m (n - m))) 0) := by
        rw [← onesZeros_step hltm]
        simp only [Ints, List.map_append, List.map_take, List.map_drop]
      rw [e3] at hown5
      repeat' (first | refine WS.q rfl (q_s (by rfl)) (by first | rfl | assumption) ?_ | refine WS.q rfl (q_len (by rfl)) (by first | rfl | assumption) ?_ | refine WS.q rfl (q_add (by rfl) (by rfl) (by unfold InI; omega)) (by first | rfl | assumption) ?_ | refine WS.q rfl (q_sub (by rfl) (by rfl) (by unfold InI; omega)) (by first | rfl | assumption) ?_ | refine WS.q rfl (q_pass (by rfl)) (by first | rfl | assumption) ?_ | refine WS.nil ?_ | fail)
      repeat' (first | refine WL.step (o_s (by rfl) ?_) | refine WL.step (o_len (by rfl) ?_) | refine WL.step (o_add (by rfl) (by rfl) (by unfold InI; omega) ?_) | refine WL.step (o_sub (by rfl) (by rfl) (by unfold InI; omega) ?_) | refine WL.step (OpW.pass (by rfl) ?_) | refine WL.nil ?_ | refine thenN ?_ | refine WP.region ?_ | refine WP.seq ?_ | refine WP.block ?_ | refine thenR ?_ | refine thenX ?_ | refine blkN ?_ | refine blkHit ?_ | refine blkR ?_ | refine blkMiss (by rfl) ?_ | refine WP.ret ?_ | refine WP.exit ?_ | refine WP.skip ?_ | refine WP.label ?_ | refine WP.condT (by rfl) ?_ | refine WP.condF (by rfl) ?_ | fail)
      exact ⟨m + Nat.min m (n - m), ⟨rfl, (by first | rfl | (show some (Value.int .i64 _) = some (Value.int .i64 _); refine congrArg some (congrArg (Value.int IntKind.i64) ?_); omega)), trivial⟩, ⟨by omega, hown5, hS5⟩, by omega⟩
  · rename_i hge
    obtain rfl : m = n := by omega
    rw [Nat.sub_self, List.replicate_zero, List.append_nil] at hown3
    repeat' (first | refine WL.step (o_s (by rfl) ?_) | refine WL.step (o_len (by rfl) ?_) | refine WL.step (o_add (by rfl) (by rfl) (by unfold InI; omega) ?_) | refine WL.step (o_sub (by rfl) (by rfl) (by unfold InI; omega) ?_) | refine WL.step (OpW.pass (by rfl) ?_) | refine WL.nil ?_ | refine thenN ?_ | refine WP.region ?_ | refine WP.seq ?_ | refine WP.block ?_ | refine thenR ?_ | refine thenX ?_ | refine blkN ?_ | refine blkHit ?_ | refine blkR ?_ | refine blkMiss (by rfl) ?_ | refine WP.ret ?_ | refine WP.exit ?_ | refine WP.skip ?_ | refine WP.label ?_ | refine WP.condT (by rfl) ?_ | refine WP.condF (by rfl) ?_ | fail)
    refine ⟨_, ret1 rfl (by rfl), ?_⟩
    exact ⟨hown3, hbl3⟩
end Go.Proofs
