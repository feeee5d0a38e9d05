/- Canonical trees, the reference's way. -/
import Derived.Test.YteifmffmadnifaaA35
import Derived.Test.YteifmffmadnifaaPlA
namespace Go.Fw
open Go Go.RowKit
theorem SL.src {lo hi : Nat} {w : World} {v : Value} {us : List Value} (h : SL (fun _ _ _ u x => u = x) lo hi w v us) : Src w v us := by
  obtain ⟨_, a, c, rfl, _, _, h⟩ := h
  refine ⟨a, c, rfl, fun i u hu => ?_⟩
  obtain ⟨b, o, u', ha, _, _, hc, hr⟩ := h i u hu
  exact ⟨b, o, ha, by rw [hc, hr]⟩
/-- A slice of rows: the outer one is owned, each row is owned; the rows need not lie apart. -/
structure OwR (e e2 : TypeId) (lo : Nat) (w : World) (v : Value) (vs : List Value) (xss : List (List Int)) : Prop where
  own : Own lo e w v vs
  len : vs.length = xss.length
  rows : ∀ (i : Nat) u xs, vs[i]? = some u → xss[i]? = some xs → OwI e2 lo w.heap.size w u xs
  ne : e ≠ e2
theorem OwR.ofSSv {e e2 lo : Nat} {w : World} {v : Value} {vs : List Value} {xss : List (List Int)} (h : OwSSv e e2 lo w.heap.size w v vs xss) : OwR e e2 lo w v vs xss := ⟨h.own, h.len, h.rows, h.ne⟩
theorem OwR.below {e e2 lo : Nat} {w w' : World} {v : Value} {vs : List Value} {xss : List (List Int)} (h : OwR e e2 lo w v vs xss) (hb : Below w.heap.size w w') : OwR e e2 lo w' v vs xss :=
  ⟨h.own.below hb (Nat.le_refl _), h.len, fun i u xs hu hx => (((h.rows i u xs hu hx).chg (Chg.of_below hb) (by omega)).wide (Nat.le_refl _) hb.size (Nat.le_refl _)), h.ne⟩
theorem OwR.rd {e e2 lo : Nat} {w : World} {v : Value} {vs : List Value} {xss : List (List Int)} (h : OwR e e2 lo w v vs xss) : ISS lo w.heap.size w v xss :=
  h.own.toSL h.len (Nat.le_refl _) (fun k hk => (h.own.block k hk).2) (Nat.le_refl _) (fun i u x hu hx => (h.rows i u x hu hx).rd)
theorem OwR.eq {e e2 lo : Nat} {w : World} {v : Value} {vs : List Value} {xss : List (List Int)} (h : OwR e e2 lo w v vs xss) : SL (fun _ _ _ u x => u = x) lo w.heap.size w v vs :=
  h.own.toSL rfl (Nat.le_refl _) (fun k hk => (h.own.block k hk).2) (Nat.le_refl _) (fun i u x hu hx => by rw [hu] at hx; simpa using hx)
theorem ins_get {α β : Type} {vs : List α} {ss : List β} {vp : α} {part : β} {m i : Nat} {u : α} {x : β} (hl : vs.length = ss.length) (h1 : (vs.take m ++ ([vp] ++ vs.drop m))[i]? = some u) (h2 : (ss.take m ++ ([part] ++ ss.drop m))[i]? = some x) :
    (∃ j : Nat, vs[j]? = some u ∧ ss[j]? = some x) ∨ (u = vp ∧ x = part) := by
  rw [List.getElem?_append] at h1 h2
  have hlt : (vs.take m).length = (ss.take m).length := by rw [List.length_take, List.length_take, hl]
  by_cases hi : i < (vs.take m).length
  · rw [if_pos hi] at h1
    rw [if_pos (by omega)] at h2
    rw [List.getElem?_take] at h1 h2
    split at h1
    · rename_i h3; rw [if_pos h3] at h2; exact .inl ⟨i, h1, h2⟩
    · cases h1
  · rw [if_neg hi] at h1
    rw [if_neg (by omega), ← hlt] at h2
    rw [List.getElem?_append] at h1 h2
    by_cases h0 : i - (vs.take m).length < 1
    · rw [if_pos (by simpa using h0)] at h1 h2
      have e0 : i - (vs.take m).length = 0 := by omega
      rw [e0] at h1 h2
      simp at h1 h2
      exact .inr ⟨h1.symm, h2.symm⟩
    · rw [if_neg (by simpa using h0)] at h1 h2
      rw [List.getElem?_drop] at h1 h2
      exact .inl ⟨_, h1, h2⟩
theorem OwR.insert {e e2 lo lo' m : Nat} {w w' : World} {v v' vp : Value} {vs : List Value} {xss : List (List Int)} {part : List Int} (h : OwR e e2 lo w v vs xss) (hp : OwI e2 lo w.heap.size w vp part) (hb : Below w.heap.size w w') (hlo : lo ≤ lo') (own' : Own lo' e w' v' (vs.take m ++ ([vp] ++ vs.drop m))) :
    OwR e e2 lo w' v' (vs.take m ++ ([vp] ++ vs.drop m)) (xss.take m ++ ([part] ++ xss.drop m)) := by
  have hl := h.len
  refine ⟨own'.lower hlo, by simp [hl], fun i u xs hu hx => ?_, h.ne⟩
  have key : OwI e2 lo w.heap.size w u xs := by
    rcases ins_get hl hu hx with ⟨j, h1, h2⟩ | ⟨rfl, rfl⟩
    · exact h.rows j u xs h1 h2
    · exact hp
  exact (key.chg (Chg.of_below hb) (by omega)).wide (Nat.le_refl _) hb.size (Nat.le_refl _)
section
variable {P : Program} {N : Nat} {Q : Exit → Fr → World → Prop} {l : Fr} {w : World} {ops : Array Oper} {K : Fr → World → Prop}
variable {d : Nat} {ty : TypeId} {pos : String} {af : Array Edge} {g : Option (Nat × Bool)}
/-- A sum, whatever it is: it wraps. -/
theorem o_addW {x y : Operand} {t t' : TypeId} {a b : Int} (hx : ev l x = some (.int .i64 a)) (hy : ev l y = some (.int .i64 b)) (k : K ((d, .int .i64 (IntKind.i64.wrap (a + b))) :: l) w)
    (hg : wantedL ops l g = some true := by rfl) (hd : Nat.blt d N = true := by rfl) : OpW P N ops Q ⟨some d, .binOp .add t x y t', ty, pos, af, g⟩ l w K :=
  OpW.val (fun fr ha => by simp [execOp, ha.ev hx, ha.ev hy, eqGuard, binOp, Op.intArith]) k hg hd
end
theorem OwR.one {e e2 lo : Nat} {w : World} {v : Value} {vs : List Value} {xss : List (List Int)} (h : OwR e e2 lo w v vs xss) : ∀ u ∈ vs, u.oneCell' = true := fun u hu => by
  obtain ⟨i, hi', rfl⟩ := List.getElem_of_mem hu
  obtain ⟨_, _, hsh, _⟩ := (h.rows i _ _ (List.getElem?_eq_getElem hi') (List.getElem?_eq_getElem (by rw [← h.len]; exact hi'))).own.shape
  rw [hsh]; rfl
end Go.Fw
namespace Go.Proofs
open Go Go.Fw Go.RowKit Go.Rk
theorem l01Less_any {lo hi lo' hi' : Nat} {w : World} {v v' : Value} {xs ys : List Int} (h : IS lo hi w v xs) (h' : IS lo' hi' w v' ys) : Does Try.prog 194 [v, v'] w fun r w' => r = .bool (lessL xs ys) ∧ Still w w' := by
  obtain ⟨a, c, hv⟩ := h.shape
  obtain ⟨a', c', hv'⟩ := h'.shape
  rw [hv] at h ⊢
  rw [hv'] at h' ⊢
  have hm := h.len
  unfold maxLen at hm
  refine Does.enter Try.func194 Try.ntmps194 rfl (by rfl) ?_
  repeat' (first | refine WL.step (o_s (by rfl) ?_) | refine WL.step (o_len (by rfl) ?_) | refine WL.step (o_add (by rfl) (by rfl) (by unfold InI; omega) ?_) | refine WL.step (o_sub (by rfl) (by rfl) (by unfold InI; omega) ?_) | refine WL.step (OpW.pass (by rfl) ?_) | refine WL.nil ?_ | refine thenN ?_ | refine WP.region ?_ | refine WP.seq ?_ | refine WP.block ?_ | refine thenR ?_ | refine thenX ?_ | refine blkN ?_ | refine blkHit ?_ | refine blkR ?_ | refine blkMiss (by rfl) ?_ | refine WP.ret ?_ | refine WP.exit ?_ | refine WP.skip ?_ | refine WP.label ?_ | refine WP.condT (by rfl) ?_ | refine WP.condF (by rfl) ?_ | fail)
  refine WP.loop (fun (i : Nat) => [(0, .slice a xs.length c), (1, .slice a' ys.length c'), (5, .int .i64 (i : Nat))])
    (fun i w2 => i ≤ xs.length ∧ i ≤ ys.length ∧ lessL xs ys = lessL (xs.drop i) (ys.drop i) ∧ Still w w2)
    (fun i => xs.length - i) 0 ⟨rfl, rfl, rfl, trivial⟩ ⟨by omega, by omega, rfl, Still.refl _⟩ ?_
  rintro i w2 ⟨hi1, hi2, hl, hs2⟩
  repeat' (first | refine WL.step (o_s (by rfl) ?_) | refine WL.step (o_len (by rfl) ?_) | refine WL.step (o_add (by rfl) (by rfl) (by unfold InI; omega) ?_) | refine WL.step (o_sub (by rfl) (by rfl) (by unfold InI; omega) ?_) | refine WL.step (OpW.pass (by rfl) ?_) | refine WL.nil ?_ | refine thenN ?_ | refine WP.region ?_ | refine WP.seq ?_ | refine WP.block ?_ | refine thenR ?_ | refine thenX ?_ | refine blkN ?_ | refine blkHit ?_ | refine blkR ?_ | refine blkMiss (by rfl) ?_ | refine WP.ret ?_ | refine WP.exit ?_ | refine WP.skip ?_ | refine WP.label ?_ | refine WP.condT (by rfl) ?_ | refine WP.condF (by rfl) ?_ | fail)
  by_cases hx : i < xs.length
  · refine WL.gsplitD (by rfl) (by rfl) (by rfl) (fun _ => ?_) (fun hb => absurd hb (by omega))
    repeat' (first | refine WL.step (o_s (by rfl) ?_) | refine WL.step (o_len (by rfl) ?_) | refine WL.step (o_add (by rfl) (by rfl) (by unfold InI; omega) ?_) | refine WL.step (o_sub (by rfl) (by rfl) (by unfold InI; omega) ?_) | refine WL.step (OpW.pass (by rfl) ?_) | refine WL.nil ?_ | refine thenN ?_ | refine WP.region ?_ | refine WP.seq ?_ | refine WP.block ?_ | refine thenR ?_ | refine thenX ?_ | refine blkN ?_ | refine blkHit ?_ | refine blkR ?_ | refine blkMiss (by rfl) ?_ | refine WP.ret ?_ | refine WP.exit ?_ | refine WP.skip ?_ | refine WP.label ?_ | refine WP.condT (by rfl) ?_ | refine WP.condF (by rfl) ?_ | fail)
    by_cases hy : i < ys.length
    · refine WP.condD (by rfl) (fun _ => ?_) (fun hb => absurd hb (by omega))
      rw [lessL_drop hx hy] at hl
      repeat' (first | refine WL.step (o_s (by rfl) ?_) | refine WL.step (o_len (by rfl) ?_) | refine WL.step (o_add (by rfl) (by rfl) (by unfold InI; omega) ?_) | refine WL.step (o_sub (by rfl) (by rfl) (by unfold InI; omega) ?_) | refine WL.step (OpW.pass (by rfl) ?_) | refine WL.nil ?_ | refine thenN ?_ | refine WP.region ?_ | refine WP.seq ?_ | refine WP.block ?_ | refine thenR ?_ | refine thenX ?_ | refine blkN ?_ | refine blkHit ?_ | refine blkR ?_ | refine blkMiss (by rfl) ?_ | refine WP.ret ?_ | refine WP.exit ?_ | refine WP.skip ?_ | refine WP.label ?_ | refine WP.condT (by rfl) ?_ | refine WP.condF (by rfl) ?_ | fail)
      refine WP.drawn (fun w' => w'.heap = w2.heap) [(0, true), (1, true), (2, true), (3, true), (4, true), (5, true), (6, true), (7, true), (8, true)] (by kernel_rfl) mixed ?_
      intro w3 hs3
      have hw3 : w3.heap = w2.heap := hs3.heap
      have ha := (h.still RI.stable hs2).still RI.stable hs3
      have hb := (h'.still RI.stable hs2).still RI.stable hs3
      repeat' (first | refine WS.q rfl (q_s (by rfl)) (by first | rfl | assumption) ?_ | refine WS.q rfl (q_len (by rfl)) (by first | rfl | assumption) ?_ | refine WS.q rfl (q_add (by rfl) (by rfl) (by unfold InI; omega)) (by first | rfl | assumption) ?_ | refine WS.q rfl (q_sub (by rfl) (by rfl) (by unfold InI; omega)) (by first | rfl | assumption) ?_ | refine WS.q rfl (q_pass (by rfl)) (by first | rfl | assumption) ?_ | refine WS.nil ?_ | fail)
      refine WS.ixload rfl rfl ha (List.getElem?_eq_getElem hx) (fun w' hw' => same_heap (hw'.trans hw3.symm)) hw3 ?_
      rintro p _ rfl
      repeat' (first | refine WS.q rfl (q_s (by rfl)) (by first | rfl | assumption) ?_ | refine WS.q rfl (q_len (by rfl)) (by first | rfl | assumption) ?_ | refine WS.q rfl (q_add (by rfl) (by rfl) (by unfold InI; omega)) (by first | rfl | assumption) ?_ | refine WS.q rfl (q_sub (by rfl) (by rfl) (by unfold InI; omega)) (by first | rfl | assumption) ?_ | refine WS.q rfl (q_pass (by rfl)) (by first | rfl | assumption) ?_ | refine WS.nil ?_ | fail)
      refine WS.ixload rfl rfl hb (List.getElem?_eq_getElem hy) (fun w' hw' => same_heap (hw'.trans hw3.symm)) hw3 ?_
      rintro p1 _ rfl
      repeat' (first | refine WS.q rfl (q_s (by rfl)) (by first | rfl | assumption) ?_ | refine WS.q rfl (q_len (by rfl)) (by first | rfl | assumption) ?_ | refine WS.q rfl (q_add (by rfl) (by rfl) (by unfold InI; omega)) (by first | rfl | assumption) ?_ | refine WS.q rfl (q_sub (by rfl) (by rfl) (by unfold InI; omega)) (by first | rfl | assumption) ?_ | refine WS.q rfl (q_pass (by rfl)) (by first | rfl | assumption) ?_ | refine WS.nil ?_ | fail)
      repeat' (first | refine WL.step (o_s (by rfl) ?_) | refine WL.step (o_len (by rfl) ?_) | refine WL.step (o_add (by rfl) (by rfl) (by unfold InI; omega) ?_) | refine WL.step (o_sub (by rfl) (by rfl) (by unfold InI; omega) ?_) | refine WL.step (OpW.pass (by rfl) ?_) | refine WL.nil ?_ | refine thenN ?_ | refine WP.region ?_ | refine WP.seq ?_ | refine WP.block ?_ | refine thenR ?_ | refine thenX ?_ | refine blkN ?_ | refine blkHit ?_ | refine blkR ?_ | refine blkMiss (by rfl) ?_ | refine WP.ret ?_ | refine WP.exit ?_ | refine WP.skip ?_ | refine WP.label ?_ | refine WP.condT (by rfl) ?_ | refine WP.condF (by rfl) ?_ | fail)
      first | refine WP.condD (by rfl) (fun _ => ?_) (fun _ => ?_) | refine WP.condND (by rfl) (fun _ => ?_) (fun _ => ?_) | refine WP.condN (by rfl) (fun _ => ?_) (fun _ => ?_) | refine WP.cond (by rfl) (fun _ => ?_) (fun _ => ?_) | fail
      · rename_i hne
        rw [if_pos hne] at hl
        repeat' (first | refine WL.step (o_s (by rfl) ?_) | refine WL.step (o_len (by rfl) ?_) | refine WL.step (o_add (by rfl) (by rfl) (by unfold InI; omega) ?_) | refine WL.step (o_sub (by rfl) (by rfl) (by unfold InI; omega) ?_) | refine WL.step (OpW.pass (by rfl) ?_) | refine WL.nil ?_ | refine thenN ?_ | refine WP.region ?_ | refine WP.seq ?_ | refine WP.block ?_ | refine thenR ?_ | refine thenX ?_ | refine blkN ?_ | refine blkHit ?_ | refine blkR ?_ | refine blkMiss (by rfl) ?_ | refine WP.ret ?_ | refine WP.exit ?_ | refine WP.skip ?_ | refine WP.label ?_ | refine WP.condT (by rfl) ?_ | refine WP.condF (by rfl) ?_ | fail)
        refine WP.drawn (fun w' => w'.heap = w3.heap) [(0, true), (1, true), (2, true), (3, true), (4, true), (5, true), (6, true), (7, true), (8, true), (9, true)] (by kernel_rfl) mixed ?_
        intro w4 hs4
        have hw4 : w4.heap = w3.heap := hs4.heap
        have ha4 := ha.still RI.stable hs4
        have hb4 := hb.still RI.stable hs4
        repeat' (first | refine WS.q rfl (q_s (by rfl)) (by first | rfl | assumption) ?_ | refine WS.q rfl (q_len (by rfl)) (by first | rfl | assumption) ?_ | refine WS.q rfl (q_add (by rfl) (by rfl) (by unfold InI; omega)) (by first | rfl | assumption) ?_ | refine WS.q rfl (q_sub (by rfl) (by rfl) (by unfold InI; omega)) (by first | rfl | assumption) ?_ | refine WS.q rfl (q_pass (by rfl)) (by first | rfl | assumption) ?_ | refine WS.nil ?_ | fail)
        refine WS.ixload rfl rfl ha4 (List.getElem?_eq_getElem hx) (fun w' hw' => same_heap (hw'.trans hw4.symm)) hw4 ?_
        rintro p2 _ rfl
        repeat' (first | refine WS.q rfl (q_s (by rfl)) (by first | rfl | assumption) ?_ | refine WS.q rfl (q_len (by rfl)) (by first | rfl | assumption) ?_ | refine WS.q rfl (q_add (by rfl) (by rfl) (by unfold InI; omega)) (by first | rfl | assumption) ?_ | refine WS.q rfl (q_sub (by rfl) (by rfl) (by unfold InI; omega)) (by first | rfl | assumption) ?_ | refine WS.q rfl (q_pass (by rfl)) (by first | rfl | assumption) ?_ | refine WS.nil ?_ | fail)
        refine WS.ixload rfl rfl hb4 (List.getElem?_eq_getElem hy) (fun w' hw' => same_heap (hw'.trans hw4.symm)) hw4 ?_
        rintro p3 _ rfl
        repeat' (first | refine WS.q rfl (q_s (by rfl)) (by first | rfl | assumption) ?_ | refine WS.q rfl (q_len (by rfl)) (by first | rfl | assumption) ?_ | refine WS.q rfl (q_add (by rfl) (by rfl) (by unfold InI; omega)) (by first | rfl | assumption) ?_ | refine WS.q rfl (q_sub (by rfl) (by rfl) (by unfold InI; omega)) (by first | rfl | assumption) ?_ | refine WS.q rfl (q_pass (by rfl)) (by first | rfl | assumption) ?_ | refine WS.nil ?_ | fail)
        repeat' (first | refine WL.step (o_s (by rfl) ?_) | refine WL.step (o_len (by rfl) ?_) | refine WL.step (o_add (by rfl) (by rfl) (by unfold InI; omega) ?_) | refine WL.step (o_sub (by rfl) (by rfl) (by unfold InI; omega) ?_) | refine WL.step (OpW.pass (by rfl) ?_) | refine WL.nil ?_ | refine thenN ?_ | refine WP.region ?_ | refine WP.seq ?_ | refine WP.block ?_ | refine thenR ?_ | refine thenX ?_ | refine blkN ?_ | refine blkHit ?_ | refine blkR ?_ | refine blkMiss (by rfl) ?_ | refine WP.ret ?_ | refine WP.exit ?_ | refine WP.skip ?_ | refine WP.label ?_ | refine WP.condT (by rfl) ?_ | refine WP.condF (by rfl) ?_ | fail)
        refine ⟨_, ret1 rfl (by rfl), ?_⟩
        exact ⟨congrArg Value.bool hl.symm, (hs2.trans hs3).trans hs4⟩
      · rename_i heq
        rw [if_neg heq] at hl
        repeat' (first | refine WL.step (o_s (by rfl) ?_) | refine WL.step (o_len (by rfl) ?_) | refine WL.step (o_add (by rfl) (by rfl) (by unfold InI; omega) ?_) | refine WL.step (o_sub (by rfl) (by rfl) (by unfold InI; omega) ?_) | refine WL.step (OpW.pass (by rfl) ?_) | refine WL.nil ?_ | refine thenN ?_ | refine WP.region ?_ | refine WP.seq ?_ | refine WP.block ?_ | refine thenR ?_ | refine thenX ?_ | refine blkN ?_ | refine blkHit ?_ | refine blkR ?_ | refine blkMiss (by rfl) ?_ | refine WP.ret ?_ | refine WP.exit ?_ | refine WP.skip ?_ | refine WP.label ?_ | refine WP.condT (by rfl) ?_ | refine WP.condF (by rfl) ?_ | fail)
        exact ⟨i + 1, ⟨rfl, rfl, (by first | rfl | (show some (Value.int .i64 _) = some (Value.int .i64 _); refine congrArg some (congrArg (Value.int IntKind.i64) ?_); omega)), trivial⟩, ⟨by omega, by omega, hl, hs2.trans hs3⟩, by omega⟩
    · refine WP.condD (by rfl) (fun hb => absurd hb (by omega)) (fun _ => ?_)
      rw [lessL_end hi1 hi2 (by omega)] at hl
      repeat' (first | refine WL.step (o_s (by rfl) ?_) | refine WL.step (o_len (by rfl) ?_) | refine WL.step (o_add (by rfl) (by rfl) (by unfold InI; omega) ?_) | refine WL.step (o_sub (by rfl) (by rfl) (by unfold InI; omega) ?_) | refine WL.step (OpW.pass (by rfl) ?_) | refine WL.nil ?_ | refine thenN ?_ | refine WP.region ?_ | refine WP.seq ?_ | refine WP.block ?_ | refine thenR ?_ | refine thenX ?_ | refine blkN ?_ | refine blkHit ?_ | refine blkR ?_ | refine blkMiss (by rfl) ?_ | refine WP.ret ?_ | refine WP.exit ?_ | refine WP.skip ?_ | refine WP.label ?_ | refine WP.condT (by rfl) ?_ | refine WP.condF (by rfl) ?_ | fail)
      refine ⟨_, ret1 rfl (by rfl), ?_⟩
      refine ⟨congrArg Value.bool ?_, hs2⟩
      rw [hl]
      by_cases h3 : xs.length < ys.length
      · rw [decide_eq_true h3, decide_eq_true (by omega)]
      · rw [decide_eq_false h3, decide_eq_false (by omega)]
  · refine WL.gsplitD (by rfl) (by rfl) (by rfl) (fun hb => absurd hb (by omega)) (fun _ => ?_)
    rw [lessL_end hi1 hi2 (by omega)] at hl
    repeat' (first | refine WL.step (o_s (by rfl) ?_) | refine WL.step (o_len (by rfl) ?_) | refine WL.step (o_add (by rfl) (by rfl) (by unfold InI; omega) ?_) | refine WL.step (o_sub (by rfl) (by rfl) (by unfold InI; omega) ?_) | refine WL.step (OpW.pass (by rfl) ?_) | refine WL.nil ?_ | refine thenN ?_ | refine WP.region ?_ | refine WP.seq ?_ | refine WP.block ?_ | refine thenR ?_ | refine thenX ?_ | refine blkN ?_ | refine blkHit ?_ | refine blkR ?_ | refine blkMiss (by rfl) ?_ | refine WP.ret ?_ | refine WP.exit ?_ | refine WP.skip ?_ | refine WP.label ?_ | refine WP.condT (by rfl) ?_ | refine WP.condF (by rfl) ?_ | fail)
    refine ⟨_, ret1 rfl (by rfl), ?_⟩
    refine ⟨congrArg Value.bool ?_, hs2⟩
    rw [hl]
    by_cases h3 : xs.length < ys.length
    · rw [decide_eq_true h3, decide_eq_true (by omega)]
    · rw [decide_eq_false h3, decide_eq_false (by omega)]
theorem flat_take_succ {xss : List (List Int)} {i : Nat} (h : i < xss.length) : (xss.take (i + 1)).flatten = (xss.take i).flatten ++ xss[i] := by
  rw [List.take_succ_eq_append_getElem h, List.flatten_append]; simp
theorem flat_part_le {xss : List (List Int)} {i k : Nat} (h : i < xss.length) (hk : k ≤ xss[i].length) : (xss.take i).flatten.length + k ≤ xss.flatten.length := by
  have e : xss.flatten = (xss.take (i + 1)).flatten ++ (xss.drop (i + 1)).flatten := by rw [← List.flatten_append, List.take_append_drop]
  rw [e, flat_take_succ h, List.length_append, List.length_append]
  omega
set_option maxHeartbeats 1000000 in
theorem l03Canon_any (f : Nat) (hf : f ≤ 8) : ∀ {lo hi : Nat} {w : World} {v : Value} {t : List Int}, IS lo hi w v t → Lv t → t.length ≤ f →
    Does Try.prog 175 [v] w fun r w' => NewI w r w' (canonL f t) := by
  induction f with
  | zero => intro _ _ _ _ t _ ht hn; exact absurd ht.pos (by omega)
  | succ f ih =>
  intro lo hi w v t h ht hn
  have hz := h.hi_le
  obtain ⟨a, c, hv⟩ := h.shape
  subst hv
  refine Does.enter Try.func175 Try.ntmps175 rfl (by rfl) ?_
  repeat' (first | refine WL.step (o_s (by rfl) ?_) | refine WL.step (o_len (by rfl) ?_) | refine WL.step (o_add (by rfl) (by rfl) (by unfold InI; omega) ?_) | refine WL.step (o_sub (by rfl) (by rfl) (by unfold InI; omega) ?_) | refine WL.step (OpW.pass (by rfl) ?_) | refine WL.nil ?_ | refine thenN ?_ | refine WP.region ?_ | refine WP.seq ?_ | refine WP.block ?_ | refine thenR ?_ | refine thenX ?_ | refine blkN ?_ | refine blkHit ?_ | refine blkR ?_ | refine blkMiss (by rfl) ?_ | refine WP.ret ?_ | refine WP.exit ?_ | refine WP.skip ?_ | refine WP.label ?_ | refine WP.condT (by rfl) ?_ | refine WP.condF (by rfl) ?_ | fail)
  refine WL.call (l03Parts_any h ht (by omega)) ?_
  rintro v2 w2 ⟨hS, hbl2⟩
  have hz2 := hbl2.size
  have hbr := branches_ok ht
  obtain ⟨bs, hbs⟩ : ∃ bs, branchesL t = bs := ⟨_, rfl⟩
  have hcan : canonL (f + 1) t = 0 :: ((sortGo (canonL f) [] (bs.drop 0)).flatten.map incW) := by rw [canonL, hbs]; rfl
  have hcl : ∀ b ∈ bs, (canonL f b).length ≤ 10 ^ f := fun b hb => canonL_len f (hbr.2 b (by rw [hbs]; exact hb)).1 (by have := (hbr.2 b (by rw [hbs]; exact hb)).2; omega)
  rw [hbs] at hS hbr
  have hR := hS.rd
  obtain ⟨ab, cb, hvb⟩ := hR.shape
  subst hvb
  have h10 : 10 ^ f ≤ 10 ^ 7 := Nat.pow_le_pow_right (by omega) (by omega)
  have hso := sortGo_ok (g := canonL f) (M := 10 ^ f) bs [] hcl (fun s hs => by simp at hs)
  repeat' (first | refine WL.step (o_s (by rfl) ?_) | refine WL.step (o_len (by rfl) ?_) | refine WL.step (o_add (by rfl) (by rfl) (by unfold InI; omega) ?_) | refine WL.step (o_sub (by rfl) (by rfl) (by unfold InI; omega) ?_) | refine WL.step (OpW.pass (by rfl) ?_) | refine WL.nil ?_ | refine thenN ?_ | refine WP.region ?_ | refine WP.seq ?_ | refine WP.block ?_ | refine thenR ?_ | refine thenX ?_ | refine blkN ?_ | refine blkHit ?_ | refine blkR ?_ | refine blkMiss (by rfl) ?_ | refine WP.ret ?_ | refine WP.exit ?_ | refine WP.skip ?_ | refine WP.label ?_ | refine WP.condT (by rfl) ?_ | refine WP.condF (by rfl) ?_ | fail)
  refine WL.step (o_lit (us := []) (by rfl) (by rfl) rfl (by decide) one0 ?_)
  intro v3 w3 hown3 hbl3 hz3 _
  have hR3 := hR.below IS.stable hbl3 (Nat.le_refl _)
  repeat' (first | refine WL.step (o_s (by rfl) ?_) | refine WL.step (o_len (by rfl) ?_) | refine WL.step (o_add (by rfl) (by rfl) (by unfold InI; omega) ?_) | refine WL.step (o_sub (by rfl) (by rfl) (by unfold InI; omega) ?_) | refine WL.step (OpW.pass (by rfl) ?_) | refine WL.nil ?_ | refine thenN ?_ | refine WP.region ?_ | refine WP.seq ?_ | refine WP.block ?_ | refine thenR ?_ | refine thenX ?_ | refine blkN ?_ | refine blkHit ?_ | refine blkR ?_ | refine blkMiss (by rfl) ?_ | refine WP.ret ?_ | refine WP.exit ?_ | refine WP.skip ?_ | refine WP.label ?_ | refine WP.condT (by rfl) ?_ | refine WP.condF (by rfl) ?_ | fail)
  refine WP.loop (fun (s : Nat × Value × List (List Int)) => [(3, .slice ab bs.length cb), (4, s.2.1), (5, .int .i64 (s.1 : Nat))])
    (fun s w4 => s.1 ≤ bs.length ∧ s.2.2.length = s.1 ∧ sortGo (canonL f) [] bs = sortGo (canonL f) s.2.2 (bs.drop s.1) ∧ (∃ vs, OwR 23 2 w2.heap.size w4 s.2.1 vs s.2.2) ∧ Below w2.heap.size w3 w4)
    (fun s => bs.length - s.1) (0, v3, []) ⟨rfl, rfl, rfl, trivial⟩ ⟨by dsimp only; omega, rfl, rfl, ⟨[], OwR.ofSSv (OwSSv.none hown3 (by decide))⟩, Below.refl _ _⟩ ?_
  rintro ⟨i, vo, ss⟩ w4 ⟨hi1, hsl, hsg, ⟨vs, oR⟩, hbl4⟩
  dsimp only at hi1 hsl hsg oR ⊢
  have hz4 := hbl4.size
  have hvl := oR.len
  have hR4 := hR3.below IS.stable hbl4 (Nat.le_refl _)
  repeat' (first | refine WL.step (o_s (by rfl) ?_) | refine WL.step (o_len (by rfl) ?_) | refine WL.step (o_add (by rfl) (by rfl) (by unfold InI; omega) ?_) | refine WL.step (o_sub (by rfl) (by rfl) (by unfold InI; omega) ?_) | refine WL.step (OpW.pass (by rfl) ?_) | refine WL.nil ?_ | refine thenN ?_ | refine WP.region ?_ | refine WP.seq ?_ | refine WP.block ?_ | refine thenR ?_ | refine thenX ?_ | refine blkN ?_ | refine blkHit ?_ | refine blkR ?_ | refine blkMiss (by rfl) ?_ | refine WP.ret ?_ | refine WP.exit ?_ | refine WP.skip ?_ | refine WP.label ?_ | refine WP.condT (by rfl) ?_ | refine WP.condF (by rfl) ?_ | fail)
  first | refine WP.condD (by rfl) (fun _ => ?_) (fun _ => ?_) | refine WP.condND (by rfl) (fun _ => ?_) (fun _ => ?_) | refine WP.condN (by rfl) (fun _ => ?_) (fun _ => ?_) | refine WP.cond (by rfl) (fun _ => ?_) (fun _ => ?_) | fail
  · rename_i hlt
    have hli : i < bs.length := by omega
    have hbi := hbr.2 _ (List.getElem_mem hli)
    rw [sortGo_drop hli] at hsg
    repeat' (first | refine WL.step (o_s (by rfl) ?_) | refine WL.step (o_len (by rfl) ?_) | refine WL.step (o_add (by rfl) (by rfl) (by unfold InI; omega) ?_) | refine WL.step (o_sub (by rfl) (by rfl) (by unfold InI; omega) ?_) | refine WL.step (OpW.pass (by rfl) ?_) | refine WL.nil ?_ | refine thenN ?_ | refine WP.region ?_ | refine WP.seq ?_ | refine WP.block ?_ | refine thenR ?_ | refine thenX ?_ | refine blkN ?_ | refine blkHit ?_ | refine blkR ?_ | refine blkMiss (by rfl) ?_ | refine WP.ret ?_ | refine WP.exit ?_ | refine WP.skip ?_ | refine WP.label ?_ | refine WP.condT (by rfl) ?_ | refine WP.condF (by rfl) ?_ | fail)
    refine WL.ixload hR4 (List.getElem?_eq_getElem hli) ?_
    intro p1 u hu
    repeat' (first | refine WL.step (o_s (by rfl) ?_) | refine WL.step (o_len (by rfl) ?_) | refine WL.step (o_add (by rfl) (by rfl) (by unfold InI; omega) ?_) | refine WL.step (o_sub (by rfl) (by rfl) (by unfold InI; omega) ?_) | refine WL.step (OpW.pass (by rfl) ?_) | refine WL.nil ?_ | refine thenN ?_ | refine WP.region ?_ | refine WP.seq ?_ | refine WP.block ?_ | refine thenR ?_ | refine thenX ?_ | refine blkN ?_ | refine blkHit ?_ | refine blkR ?_ | refine blkMiss (by rfl) ?_ | refine WP.ret ?_ | refine WP.exit ?_ | refine WP.skip ?_ | refine WP.label ?_ | refine WP.condT (by rfl) ?_ | refine WP.condF (by rfl) ?_ | fail)
    refine WL.call (ih (by omega) hu hbi.1 (by omega)) ?_
    intro v5 w5 hN5
    have hz5 := hN5.2.size
    obtain ⟨part, hpart⟩ : ∃ part, canonL f bs[i] = part := ⟨_, rfl⟩
    rw [hpart] at hN5 hsg
    have oR5 := oR.below hN5.2
    have hP := hN5.ow.rd
    obtain ⟨ap, cp, hvp⟩ := hP.shape
    subst hvp
    obtain ⟨as2, cs2, hvo, hcap, _⟩ := oR5.own.shape
    rw [hvl] at hvo hcap
    subst hvo
    repeat' (first | refine WL.step (o_s (by rfl) ?_) | refine WL.step (o_len (by rfl) ?_) | refine WL.step (o_add (by rfl) (by rfl) (by unfold InI; omega) ?_) | refine WL.step (o_sub (by rfl) (by rfl) (by unfold InI; omega) ?_) | refine WL.step (OpW.pass (by rfl) ?_) | refine WL.nil ?_ | refine thenN ?_ | refine WP.region ?_ | refine WP.seq ?_ | refine WP.block ?_ | refine thenR ?_ | refine thenX ?_ | refine blkN ?_ | refine blkHit ?_ | refine blkR ?_ | refine blkMiss (by rfl) ?_ | refine WP.ret ?_ | refine WP.exit ?_ | refine WP.skip ?_ | refine WP.label ?_ | refine WP.condT (by rfl) ?_ | refine WP.condF (by rfl) ?_ | fail)
    refine WP.loop (fun (m : Nat) => [(3, .slice ab bs.length cb), (4, .slice as2 ss.length cs2), (5, .int .i64 (i : Nat)), (6, .slice ap part.length cp), (7, .int .i64 (m : Nat))])
      (fun m w6 => m ≤ ss.length ∧ insAt part ss = m + insAt part (ss.drop m) ∧ Still w5 w6) (fun m => ss.length - m) 0 ⟨rfl, rfl, rfl, rfl, rfl, trivial⟩ ⟨by omega, by simp, Still.refl _⟩ ?_
    rintro m w6 ⟨hm, hin, hs6⟩
    have hz6 := hs6.size
    have oR6 := oR5.below (hs6.below _)
    repeat' (first | refine WL.step (o_s (by rfl) ?_) | refine WL.step (o_len (by rfl) ?_) | refine WL.step (o_add (by rfl) (by rfl) (by unfold InI; omega) ?_) | refine WL.step (o_sub (by rfl) (by rfl) (by unfold InI; omega) ?_) | refine WL.step (OpW.pass (by rfl) ?_) | refine WL.nil ?_ | refine thenN ?_ | refine WP.region ?_ | refine WP.seq ?_ | refine WP.block ?_ | refine thenR ?_ | refine thenX ?_ | refine blkN ?_ | refine blkHit ?_ | refine blkR ?_ | refine blkMiss (by rfl) ?_ | refine WP.ret ?_ | refine WP.exit ?_ | refine WP.skip ?_ | refine WP.label ?_ | refine WP.condT (by rfl) ?_ | refine WP.condF (by rfl) ?_ | fail)
    by_cases hmlt : m < ss.length
    · refine WL.gsplitD (by rfl) (by rfl) (by rfl) (fun _ => ?_) (fun hb => absurd hb (by omega))
      rw [insAt_drop hmlt] at hin
      repeat' (first | refine WL.step (o_s (by rfl) ?_) | refine WL.step (o_len (by rfl) ?_) | refine WL.step (o_add (by rfl) (by rfl) (by unfold InI; omega) ?_) | refine WL.step (o_sub (by rfl) (by rfl) (by unfold InI; omega) ?_) | refine WL.step (OpW.pass (by rfl) ?_) | refine WL.nil ?_ | refine thenN ?_ | refine WP.region ?_ | refine WP.seq ?_ | refine WP.block ?_ | refine thenR ?_ | refine thenX ?_ | refine blkN ?_ | refine blkHit ?_ | refine blkR ?_ | refine blkMiss (by rfl) ?_ | refine WP.ret ?_ | refine WP.exit ?_ | refine WP.skip ?_ | refine WP.label ?_ | refine WP.condT (by rfl) ?_ | refine WP.condF (by rfl) ?_ | fail)
      refine WL.ixload oR6.rd (List.getElem?_eq_getElem hmlt) ?_
      intro p2 u2 hu2
      repeat' (first | refine WL.step (o_s (by rfl) ?_) | refine WL.step (o_len (by rfl) ?_) | refine WL.step (o_add (by rfl) (by rfl) (by unfold InI; omega) ?_) | refine WL.step (o_sub (by rfl) (by rfl) (by unfold InI; omega) ?_) | refine WL.step (OpW.pass (by rfl) ?_) | refine WL.nil ?_ | refine thenN ?_ | refine WP.region ?_ | refine WP.seq ?_ | refine WP.block ?_ | refine thenR ?_ | refine thenX ?_ | refine blkN ?_ | refine blkHit ?_ | refine blkR ?_ | refine blkMiss (by rfl) ?_ | refine WP.ret ?_ | refine WP.exit ?_ | refine WP.skip ?_ | refine WP.label ?_ | refine WP.condT (by rfl) ?_ | refine WP.condF (by rfl) ?_ | fail)
      refine WL.call (l01Less_any hu2 (hP.still RI.stable hs6)) ?_
      rintro _ w7 ⟨rfl, hs7⟩
      repeat' (first | refine WL.step (o_s (by rfl) ?_) | refine WL.step (o_len (by rfl) ?_) | refine WL.step (o_add (by rfl) (by rfl) (by unfold InI; omega) ?_) | refine WL.step (o_sub (by rfl) (by rfl) (by unfold InI; omega) ?_) | refine WL.step (OpW.pass (by rfl) ?_) | refine WL.nil ?_ | refine thenN ?_ | refine WP.region ?_ | refine WP.seq ?_ | refine WP.block ?_ | refine thenR ?_ | refine thenX ?_ | refine blkN ?_ | refine blkHit ?_ | refine blkR ?_ | refine blkMiss (by rfl) ?_ | refine WP.ret ?_ | refine WP.exit ?_ | refine WP.skip ?_ | refine WP.label ?_ | refine WP.condT (by rfl) ?_ | refine WP.condF (by rfl) ?_ | fail)
      first | refine WP.condD (by rfl) (fun _ => ?_) (fun _ => ?_) | refine WP.condND (by rfl) (fun _ => ?_) (fun _ => ?_) | refine WP.condN (by rfl) (fun _ => ?_) (fun _ => ?_) | refine WP.cond (by rfl) (fun _ => ?_) (fun _ => ?_) | fail
      · rename_i hnl
        rw [hnl] at hin
        repeat' (first | refine WL.step (o_s (by rfl) ?_) | refine WL.step (o_len (by rfl) ?_) | refine WL.step (o_add (by rfl) (by rfl) (by unfold InI; omega) ?_) | refine WL.step (o_sub (by rfl) (by rfl) (by unfold InI; omega) ?_) | refine WL.step (OpW.pass (by rfl) ?_) | refine WL.nil ?_ | refine thenN ?_ | refine WP.region ?_ | refine WP.seq ?_ | refine WP.block ?_ | refine thenR ?_ | refine thenX ?_ | refine blkN ?_ | refine blkHit ?_ | refine blkR ?_ | refine blkMiss (by rfl) ?_ | refine WP.ret ?_ | refine WP.exit ?_ | refine WP.skip ?_ | refine WP.label ?_ | refine WP.condT (by rfl) ?_ | refine WP.condF (by rfl) ?_ | fail)
        exact ⟨m + 1, ⟨rfl, rfl, rfl, rfl, (by first | rfl | (show some (Value.int .i64 _) = some (Value.int .i64 _); refine congrArg some (congrArg (Value.int IntKind.i64) ?_); omega)), trivial⟩, ⟨by omega, by rw [hin]; simp, hs6.trans hs7⟩, by omega⟩
      · rename_i hyl
        have hat : insAt part ss = m := by rw [hin, if_pos (by simpa using hyl)]
        have hs57 := hs6.trans hs7
        have oR7 := oR5.below (hs57.below _)
        have hz7 := hs57.size
        repeat' (first | refine WL.step (o_s (by rfl) ?_) | refine WL.step (o_len (by rfl) ?_) | refine WL.step (o_add (by rfl) (by rfl) (by unfold InI; omega) ?_) | refine WL.step (o_sub (by rfl) (by rfl) (by unfold InI; omega) ?_) | refine WL.step (OpW.pass (by rfl) ?_) | refine WL.nil ?_ | refine thenN ?_ | refine WP.region ?_ | refine WP.seq ?_ | refine WP.block ?_ | refine thenR ?_ | refine thenX ?_ | refine blkN ?_ | refine blkHit ?_ | refine blkR ?_ | refine blkMiss (by rfl) ?_ | refine WP.ret ?_ | refine WP.exit ?_ | refine WP.skip ?_ | refine WP.label ?_ | refine WP.condT (by rfl) ?_ | refine WP.condF (by rfl) ?_ | fail)
        refine WL.step (o_lit (us := [.slice ap part.length cp]) (by rfl) (by rfl) rfl (by decide) (one1 rfl) ?_)
        intro v8 w8 hown8 hbl8 hz8 _
        have oR8 := oR7.below hbl8
        repeat' (first | refine WL.step (o_s (by rfl) ?_) | refine WL.step (o_len (by rfl) ?_) | refine WL.step (o_add (by rfl) (by rfl) (by unfold InI; omega) ?_) | refine WL.step (o_sub (by rfl) (by rfl) (by unfold InI; omega) ?_) | refine WL.step (OpW.pass (by rfl) ?_) | refine WL.nil ?_ | refine thenN ?_ | refine WP.region ?_ | refine WP.seq ?_ | refine WP.block ?_ | refine thenR ?_ | refine thenX ?_ | refine blkN ?_ | refine blkHit ?_ | refine blkR ?_ | refine blkMiss (by rfl) ?_ | refine WP.ret ?_ | refine WP.exit ?_ | refine WP.skip ?_ | refine WP.label ?_ | refine WP.condT (by rfl) ?_ | refine WP.condF (by rfl) ?_ | fail)
        refine WL.step (o_sliceL (i := m) (by rfl) (by rfl) hm ?_)
        refine WL.step (o_append (us := [.slice ap part.length cp]) (news := vs.drop m) (by rfl) (by rfl) hown8 (SL.src (SL.drop oR8.eq (by omega))) (fun u hu => oR8.one u (List.mem_of_mem_drop hu)) (by simp [maxLen]; omega) (by simp; omega) (by omega) ?_)
        intro v9 w9 hown9 hg9 hbl9 _
        have hz9 := hg9.size
        have hbl79 : Below w7.heap.size w7 w9 := hbl8.trans hbl9
        have oR9 := oR7.below hbl79
        repeat' (first | refine WL.step (o_s (by rfl) ?_) | refine WL.step (o_len (by rfl) ?_) | refine WL.step (o_add (by rfl) (by rfl) (by unfold InI; omega) ?_) | refine WL.step (o_sub (by rfl) (by rfl) (by unfold InI; omega) ?_) | refine WL.step (OpW.pass (by rfl) ?_) | refine WL.nil ?_ | refine thenN ?_ | refine WP.region ?_ | refine WP.seq ?_ | refine WP.block ?_ | refine thenR ?_ | refine thenX ?_ | refine blkN ?_ | refine blkHit ?_ | refine blkR ?_ | refine blkMiss (by rfl) ?_ | refine WP.ret ?_ | refine WP.exit ?_ | refine WP.skip ?_ | refine WP.label ?_ | refine WP.condT (by rfl) ?_ | refine WP.condF (by rfl) ?_ | fail)
        refine WL.step (o_lit (us := []) (by rfl) (by rfl) rfl (by decide) one0 ?_)
        intro v10 w10 hown10 hbl10 hz10 _
        have oR10 := oR9.below hbl10
        repeat' (first | refine WL.step (o_s (by rfl) ?_) | refine WL.step (o_len (by rfl) ?_) | refine WL.step (o_add (by rfl) (by rfl) (by unfold InI; omega) ?_) | refine WL.step (o_sub (by rfl) (by rfl) (by unfold InI; omega) ?_) | refine WL.step (OpW.pass (by rfl) ?_) | refine WL.nil ?_ | refine thenN ?_ | refine WP.region ?_ | refine WP.seq ?_ | refine WP.block ?_ | refine thenR ?_ | refine thenX ?_ | refine blkN ?_ | refine blkHit ?_ | refine blkR ?_ | refine blkMiss (by rfl) ?_ | refine WP.ret ?_ | refine WP.exit ?_ | refine WP.skip ?_ | refine WP.label ?_ | refine WP.condT (by rfl) ?_ | refine WP.condF (by rfl) ?_ | fail)
        refine WL.step (o_sliceH (i := m) (by rfl) (by rfl) (by omega) ?_)
        refine WL.step (o_append (us := []) (news := vs.take m) (by rfl) (by rfl) hown10 (SL.src (by have := SL.take oR10.eq (i := m) (by omega); exact this)) (fun u hu => oR10.one u (List.mem_of_mem_take hu)) (by simp [maxLen]; omega) (by simp; omega) (by omega) ?_)
        intro v11 w11 hown11 hg11 hbl11 _
        have hz11 := hg11.size
        have hbl911 : Below w9.heap.size w9 w11 := hbl10.trans hbl11
        repeat' (first | refine WL.step (o_s (by rfl) ?_) | refine WL.step (o_len (by rfl) ?_) | refine WL.step (o_add (by rfl) (by rfl) (by unfold InI; omega) ?_) | refine WL.step (o_sub (by rfl) (by rfl) (by unfold InI; omega) ?_) | refine WL.step (OpW.pass (by rfl) ?_) | refine WL.nil ?_ | refine thenN ?_ | refine WP.region ?_ | refine WP.seq ?_ | refine WP.block ?_ | refine thenR ?_ | refine thenX ?_ | refine blkN ?_ | refine blkHit ?_ | refine blkR ?_ | refine blkMiss (by rfl) ?_ | refine WP.ret ?_ | refine WP.exit ?_ | refine WP.skip ?_ | refine WP.label ?_ | refine WP.condT (by rfl) ?_ | refine WP.condF (by rfl) ?_ | fail)
        refine WL.step (o_append (us := [] ++ vs.take m) (news := [.slice ap part.length cp] ++ vs.drop m) (by rfl) (by rfl) hown11 (hown9.below hbl911 (Nat.le_refl _)).src (fun u hu => by
          rcases List.mem_append.1 hu with hu | hu
          · simp only [List.mem_singleton] at hu; subst hu; rfl
          · exact oR8.one u (List.mem_of_mem_drop hu)) (by simp [maxLen]; omega) (by simp; omega) (by omega) ?_)
        intro v12 w12 hown12 hg12 hbl12 _
        have hz12 := hg12.size
        have hbl712 : Below w7.heap.size w7 w12 := hbl79.trans ((Below.mono hbl911 (by omega)).trans (Below.mono hbl12 (by omega)))
        have oR12 := oR7.insert (m := m) (vp := .slice ap part.length cp) (part := part) ((hN5.ow.chg (Chg.of_below (hs57.below _)) (by omega)).wide (by omega) (by omega) (Nat.le_refl _)) hbl712 (show w2.heap.size ≤ w9.heap.size by omega) (by simpa using hown12)
        have hins : insL part ss = ss.take m ++ ([part] ++ ss.drop m) := by unfold insL; rw [hat]
        rw [← hins] at oR12
        repeat' (first | refine WL.step (o_s (by rfl) ?_) | refine WL.step (o_len (by rfl) ?_) | refine WL.step (o_add (by rfl) (by rfl) (by unfold InI; omega) ?_) | refine WL.step (o_sub (by rfl) (by rfl) (by unfold InI; omega) ?_) | refine WL.step (OpW.pass (by rfl) ?_) | refine WL.nil ?_ | refine thenN ?_ | refine WP.region ?_ | refine WP.seq ?_ | refine WP.block ?_ | refine thenR ?_ | refine thenX ?_ | refine blkN ?_ | refine blkHit ?_ | refine blkR ?_ | refine blkMiss (by rfl) ?_ | refine WP.ret ?_ | refine WP.exit ?_ | refine WP.skip ?_ | refine WP.label ?_ | refine WP.condT (by rfl) ?_ | refine WP.condF (by rfl) ?_ | fail)
        exact ⟨(i + 1, v12, insL part ss), ⟨rfl, rfl, (by first | rfl | (show some (Value.int .i64 _) = some (Value.int .i64 _); refine congrArg some (congrArg (Value.int IntKind.i64) ?_); omega)), trivial⟩, ⟨by dsimp only; omega, by dsimp only; rw [insL_length]; omega, hsg, ⟨_, oR12⟩, ((hbl4.trans (Below.mono hN5.2 (by omega))).trans (hs57.below _)).trans (Below.mono hbl712 (by omega))⟩, by dsimp only; omega⟩
    · refine WL.gsplitD (by rfl) (by rfl) (by rfl) (fun hb => absurd hb (by omega)) (fun _ => ?_)
      have hat : insAt part ss = m := by rw [hin, List.drop_eq_nil_of_le (by omega)]; rfl
      obtain ⟨w7, hw67⟩ : ∃ w7, w6 = w7 := ⟨_, rfl⟩
      subst hw67
      have hs57 := hs6
      have oR7 := oR6
      repeat' (first | refine WL.step (o_s (by rfl) ?_) | refine WL.step (o_len (by rfl) ?_) | refine WL.step (o_add (by rfl) (by rfl) (by unfold InI; omega) ?_) | refine WL.step (o_sub (by rfl) (by rfl) (by unfold InI; omega) ?_) | refine WL.step (OpW.pass (by rfl) ?_) | refine WL.nil ?_ | refine thenN ?_ | refine WP.region ?_ | refine WP.seq ?_ | refine WP.block ?_ | refine thenR ?_ | refine thenX ?_ | refine blkN ?_ | refine blkHit ?_ | refine blkR ?_ | refine blkMiss (by rfl) ?_ | refine WP.ret ?_ | refine WP.exit ?_ | refine WP.skip ?_ | refine WP.label ?_ | refine WP.condT (by rfl) ?_ | refine WP.condF (by rfl) ?_ | fail)
      refine WL.step (o_lit (us := [.slice ap part.length cp]) (by rfl) (by rfl) rfl (by decide) (one1 rfl) ?_)
      intro v8 w8 hown8 hbl8 hz8 _
      have oR8 := oR7.below hbl8
      repeat' (first | refine WL.step (o_s (by rfl) ?_) | refine WL.step (o_len (by rfl) ?_) | refine WL.step (o_add (by rfl) (by rfl) (by unfold InI; omega) ?_) | refine WL.step (o_sub (by rfl) (by rfl) (by unfold InI; omega) ?_) | refine WL.step (OpW.pass (by rfl) ?_) | refine WL.nil ?_ | refine thenN ?_ | refine WP.region ?_ | refine WP.seq ?_ | refine WP.block ?_ | refine thenR ?_ | refine thenX ?_ | refine blkN ?_ | refine blkHit ?_ | refine blkR ?_ | refine blkMiss (by rfl) ?_ | refine WP.ret ?_ | refine WP.exit ?_ | refine WP.skip ?_ | refine WP.label ?_ | refine WP.condT (by rfl) ?_ | refine WP.condF (by rfl) ?_ | fail)
      refine WL.step (o_sliceL (i := m) (by rfl) (by rfl) hm ?_)
      refine WL.step (o_append (us := [.slice ap part.length cp]) (news := vs.drop m) (by rfl) (by rfl) hown8 (SL.src (SL.drop oR8.eq (by omega))) (fun u hu => oR8.one u (List.mem_of_mem_drop hu)) (by simp [maxLen]; omega) (by simp; omega) (by omega) ?_)
      intro v9 w9 hown9 hg9 hbl9 _
      have hz9 := hg9.size
      have hbl79 : Below w6.heap.size w6 w9 := hbl8.trans hbl9
      have oR9 := oR7.below hbl79
      repeat' (first | refine WL.step (o_s (by rfl) ?_) | refine WL.step (o_len (by rfl) ?_) | refine WL.step (o_add (by rfl) (by rfl) (by unfold InI; omega) ?_) | refine WL.step (o_sub (by rfl) (by rfl) (by unfold InI; omega) ?_) | refine WL.step (OpW.pass (by rfl) ?_) | refine WL.nil ?_ | refine thenN ?_ | refine WP.region ?_ | refine WP.seq ?_ | refine WP.block ?_ | refine thenR ?_ | refine thenX ?_ | refine blkN ?_ | refine blkHit ?_ | refine blkR ?_ | refine blkMiss (by rfl) ?_ | refine WP.ret ?_ | refine WP.exit ?_ | refine WP.skip ?_ | refine WP.label ?_ | refine WP.condT (by rfl) ?_ | refine WP.condF (by rfl) ?_ | fail)
      refine WL.step (o_lit (us := []) (by rfl) (by rfl) rfl (by decide) one0 ?_)
      intro v10 w10 hown10 hbl10 hz10 _
      have oR10 := oR9.below hbl10
      repeat' (first | refine WL.step (o_s (by rfl) ?_) | refine WL.step (o_len (by rfl) ?_) | refine WL.step (o_add (by rfl) (by rfl) (by unfold InI; omega) ?_) | refine WL.step (o_sub (by rfl) (by rfl) (by unfold InI; omega) ?_) | refine WL.step (OpW.pass (by rfl) ?_) | refine WL.nil ?_ | refine thenN ?_ | refine WP.region ?_ | refine WP.seq ?_ | refine WP.block ?_ | refine thenR ?_ | refine thenX ?_ | refine blkN ?_ | refine blkHit ?_ | refine blkR ?_ | refine blkMiss (by rfl) ?_ | refine WP.ret ?_ | refine WP.exit ?_ | refine WP.skip ?_ | refine WP.label ?_ | refine WP.condT (by rfl) ?_ | refine WP.condF (by rfl) ?_ | fail)
      refine WL.step (o_sliceH (i := m) (by rfl) (by rfl) (by omega) ?_)
      refine WL.step (o_append (us := []) (news := vs.take m) (by rfl) (by rfl) hown10 (SL.src (by have := SL.take oR10.eq (i := m) (by omega); exact this)) (fun u hu => oR10.one u (List.mem_of_mem_take hu)) (by simp [maxLen]; omega) (by simp; omega) (by omega) ?_)
      intro v11 w11 hown11 hg11 hbl11 _
      have hz11 := hg11.size
      have hbl911 : Below w9.heap.size w9 w11 := hbl10.trans hbl11
      repeat' (first | refine WL.step (o_s (by rfl) ?_) | refine WL.step (o_len (by rfl) ?_) | refine WL.step (o_add (by rfl) (by rfl) (by unfold InI; omega) ?_) | refine WL.step (o_sub (by rfl) (by rfl) (by unfold InI; omega) ?_) | refine WL.step (OpW.pass (by rfl) ?_) | refine WL.nil ?_ | refine thenN ?_ | refine WP.region ?_ | refine WP.seq ?_ | refine WP.block ?_ | refine thenR ?_ | refine thenX ?_ | refine blkN ?_ | refine blkHit ?_ | refine blkR ?_ | refine blkMiss (by rfl) ?_ | refine WP.ret ?_ | refine WP.exit ?_ | refine WP.skip ?_ | refine WP.label ?_ | refine WP.condT (by rfl) ?_ | refine WP.condF (by rfl) ?_ | fail)
      refine WL.step (o_append (us := [] ++ vs.take m) (news := [.slice ap part.length cp] ++ vs.drop m) (by rfl) (by rfl) hown11 (hown9.below hbl911 (Nat.le_refl _)).src (fun u hu => by
        rcases List.mem_append.1 hu with hu | hu
        · simp only [List.mem_singleton] at hu; subst hu; rfl
        · exact oR8.one u (List.mem_of_mem_drop hu)) (by simp [maxLen]; omega) (by simp; omega) (by omega) ?_)
      intro v12 w12 hown12 hg12 hbl12 _
      have hz12 := hg12.size
      have hbl712 : Below w6.heap.size w6 w12 := hbl79.trans ((Below.mono hbl911 (by omega)).trans (Below.mono hbl12 (by omega)))
      have oR12 := oR7.insert (m := m) (vp := .slice ap part.length cp) (part := part) ((hN5.ow.chg (Chg.of_below (hs57.below _)) (by omega)).wide (by omega) (by omega) (Nat.le_refl _)) hbl712 (show w2.heap.size ≤ w9.heap.size by omega) (by simpa using hown12)
      have hins : insL part ss = ss.take m ++ ([part] ++ ss.drop m) := by unfold insL; rw [hat]
      rw [← hins] at oR12
      repeat' (first | refine WL.step (o_s (by rfl) ?_) | refine WL.step (o_len (by rfl) ?_) | refine WL.step (o_add (by rfl) (by rfl) (by unfold InI; omega) ?_) | refine WL.step (o_sub (by rfl) (by rfl) (by unfold InI; omega) ?_) | refine WL.step (OpW.pass (by rfl) ?_) | refine WL.nil ?_ | refine thenN ?_ | refine WP.region ?_ | refine WP.seq ?_ | refine WP.block ?_ | refine thenR ?_ | refine thenX ?_ | refine blkN ?_ | refine blkHit ?_ | refine blkR ?_ | refine blkMiss (by rfl) ?_ | refine WP.ret ?_ | refine WP.exit ?_ | refine WP.skip ?_ | refine WP.label ?_ | refine WP.condT (by rfl) ?_ | refine WP.condF (by rfl) ?_ | fail)
      exact ⟨(i + 1, v12, insL part ss), ⟨rfl, rfl, (by first | rfl | (show some (Value.int .i64 _) = some (Value.int .i64 _); refine congrArg some (congrArg (Value.int IntKind.i64) ?_); omega)), trivial⟩, ⟨by dsimp only; omega, by dsimp only; rw [insL_length]; omega, hsg, ⟨_, oR12⟩, ((hbl4.trans (Below.mono hN5.2 (by omega))).trans (hs57.below _)).trans (Below.mono hbl712 (by omega))⟩, by dsimp only; omega⟩
  · rename_i hge
    have hie : i = bs.length := by omega
    subst hie
    rw [List.drop_length, sortGo] at hsg
    rw [List.drop_zero, hsg] at hcan
    rw [hsg] at hso
    have hfl := flat_le hso.2
    have hssl : ss.length ≤ 7 := by have := hbr.1; omega
    have hfl2 : ss.flatten.length ≤ 10 ^ 7 * 7 := Nat.le_trans hfl (Nat.mul_le_mul h10 hssl)
    obtain ⟨as2, cs2, hvo, _⟩ := oR.own.shape
    rw [hvl] at hvo
    subst hvo
    rw [hcan]
    repeat' (first | refine WL.step (o_s (by rfl) ?_) | refine WL.step (o_len (by rfl) ?_) | refine WL.step (o_add (by rfl) (by rfl) (by unfold InI; omega) ?_) | refine WL.step (o_sub (by rfl) (by rfl) (by unfold InI; omega) ?_) | refine WL.step (OpW.pass (by rfl) ?_) | refine WL.nil ?_ | refine thenN ?_ | refine WP.region ?_ | refine WP.seq ?_ | refine WP.block ?_ | refine thenR ?_ | refine thenX ?_ | refine blkN ?_ | refine blkHit ?_ | refine blkR ?_ | refine blkMiss (by rfl) ?_ | refine WP.ret ?_ | refine WP.exit ?_ | refine WP.skip ?_ | refine WP.label ?_ | refine WP.condT (by rfl) ?_ | refine WP.condF (by rfl) ?_ | fail)
    refine WL.step (o_lit (us := [.int .i64 0]) (by rfl) (by rfl) rfl (by decide) (one1 rfl) ?_)
    intro v5 w5 hown5 hbl5 hz5 _
    have hSS := oR.rd
    repeat' (first | refine WL.step (o_s (by rfl) ?_) | refine WL.step (o_len (by rfl) ?_) | refine WL.step (o_add (by rfl) (by rfl) (by unfold InI; omega) ?_) | refine WL.step (o_sub (by rfl) (by rfl) (by unfold InI; omega) ?_) | refine WL.step (OpW.pass (by rfl) ?_) | refine WL.nil ?_ | refine thenN ?_ | refine WP.region ?_ | refine WP.seq ?_ | refine WP.block ?_ | refine thenR ?_ | refine thenX ?_ | refine blkN ?_ | refine blkHit ?_ | refine blkR ?_ | refine blkMiss (by rfl) ?_ | refine WP.ret ?_ | refine WP.exit ?_ | refine WP.skip ?_ | refine WP.label ?_ | refine WP.condT (by rfl) ?_ | refine WP.condF (by rfl) ?_ | fail)
    refine WP.loop (fun (s : Nat × Value) => [(4, .slice as2 ss.length cs2), (9, s.2), (10, .int .i64 (s.1 : Nat))])
      (fun s w6 => s.1 ≤ ss.length ∧ Own w4.heap.size 2 w6 s.2 (Ints (0 :: ((ss.take s.1).flatten.map incW))) ∧ Below w4.heap.size w5 w6)
      (fun s => ss.length - s.1) (0, v5) ⟨rfl, rfl, rfl, trivial⟩ ⟨by dsimp only; omega, by simpa [Ints] using hown5, Below.refl _ _⟩ ?_
    rintro ⟨j, vu⟩ w6 ⟨hj, hown6, hbl6⟩
    dsimp only at hj hown6 ⊢
    have hz6 := hbl6.size
    repeat' (first | refine WL.step (o_s (by rfl) ?_) | refine WL.step (o_len (by rfl) ?_) | refine WL.step (o_add (by rfl) (by rfl) (by unfold InI; omega) ?_) | refine WL.step (o_sub (by rfl) (by rfl) (by unfold InI; omega) ?_) | refine WL.step (OpW.pass (by rfl) ?_) | refine WL.nil ?_ | refine thenN ?_ | refine WP.region ?_ | refine WP.seq ?_ | refine WP.block ?_ | refine thenR ?_ | refine thenX ?_ | refine blkN ?_ | refine blkHit ?_ | refine blkR ?_ | refine blkMiss (by rfl) ?_ | refine WP.ret ?_ | refine WP.exit ?_ | refine WP.skip ?_ | refine WP.label ?_ | refine WP.condT (by rfl) ?_ | refine WP.condF (by rfl) ?_ | fail)
    first | refine WP.condD (by rfl) (fun _ => ?_) (fun _ => ?_) | refine WP.condND (by rfl) (fun _ => ?_) (fun _ => ?_) | refine WP.condN (by rfl) (fun _ => ?_) (fun _ => ?_) | refine WP.cond (by rfl) (fun _ => ?_) (fun _ => ?_) | fail
    · rename_i hltj
      have hlj : j < ss.length := by omega
      repeat' (first | refine WL.step (o_s (by rfl) ?_) | refine WL.step (o_len (by rfl) ?_) | refine WL.step (o_add (by rfl) (by rfl) (by unfold InI; omega) ?_) | refine WL.step (o_sub (by rfl) (by rfl) (by unfold InI; omega) ?_) | refine WL.step (OpW.pass (by rfl) ?_) | refine WL.nil ?_ | refine thenN ?_ | refine WP.region ?_ | refine WP.seq ?_ | refine WP.block ?_ | refine thenR ?_ | refine thenX ?_ | refine blkN ?_ | refine blkHit ?_ | refine blkR ?_ | refine blkMiss (by rfl) ?_ | refine WP.ret ?_ | refine WP.exit ?_ | refine WP.skip ?_ | refine WP.label ?_ | refine WP.condT (by rfl) ?_ | refine WP.condF (by rfl) ?_ | fail)
      refine WP.loop (fun (s : Nat × Value) => [(4, .slice as2 ss.length cs2), (9, s.2), (10, .int .i64 (j : Nat)), (11, .int .i64 (s.1 : Nat))])
        (fun s w7 => s.1 ≤ ss[j].length ∧ Own w4.heap.size 2 w7 s.2 (Ints ((0 :: ((ss.take j).flatten.map incW)) ++ (ss[j].take s.1).map incW)) ∧ Below w4.heap.size w5 w7)
        (fun s => ss[j].length - s.1) (0, vu) ⟨rfl, rfl, rfl, rfl, trivial⟩ ⟨by dsimp only; omega, by simpa using hown6, hbl6⟩ ?_
      rintro ⟨k, vk⟩ w7 ⟨hk, hown7, hbl7⟩
      dsimp only at hk hown7 ⊢
      have hz7 := hbl7.size
      have hSS7 := hSS.below IS.stable (hbl5.trans hbl7) (Nat.le_refl _)
      have hpl := flat_part_le hlj hk
      repeat' (first | refine WL.step (o_s (by rfl) ?_) | refine WL.step (o_len (by rfl) ?_) | refine WL.step (o_add (by rfl) (by rfl) (by unfold InI; omega) ?_) | refine WL.step (o_sub (by rfl) (by rfl) (by unfold InI; omega) ?_) | refine WL.step (OpW.pass (by rfl) ?_) | refine WL.nil ?_ | refine thenN ?_ | refine WP.region ?_ | refine WP.seq ?_ | refine WP.block ?_ | refine thenR ?_ | refine thenX ?_ | refine blkN ?_ | refine blkHit ?_ | refine blkR ?_ | refine blkMiss (by rfl) ?_ | refine WP.ret ?_ | refine WP.exit ?_ | refine WP.skip ?_ | refine WP.label ?_ | refine WP.condT (by rfl) ?_ | refine WP.condF (by rfl) ?_ | fail)
      refine WL.ixload hSS7 (List.getElem?_eq_getElem hlj) ?_
      intro p3 u3 hu3
      obtain ⟨a3, c3, hv3⟩ := hu3.shape
      subst hv3
      repeat' (first | refine WL.step (o_s (by rfl) ?_) | refine WL.step (o_len (by rfl) ?_) | refine WL.step (o_add (by rfl) (by rfl) (by unfold InI; omega) ?_) | refine WL.step (o_sub (by rfl) (by rfl) (by unfold InI; omega) ?_) | refine WL.step (OpW.pass (by rfl) ?_) | refine WL.nil ?_ | refine thenN ?_ | refine WP.region ?_ | refine WP.seq ?_ | refine WP.block ?_ | refine thenR ?_ | refine thenX ?_ | refine blkN ?_ | refine blkHit ?_ | refine blkR ?_ | refine blkMiss (by rfl) ?_ | refine WP.ret ?_ | refine WP.exit ?_ | refine WP.skip ?_ | refine WP.label ?_ | refine WP.condT (by rfl) ?_ | refine WP.condF (by rfl) ?_ | fail)
      first | refine WP.condD (by rfl) (fun _ => ?_) (fun _ => ?_) | refine WP.condND (by rfl) (fun _ => ?_) (fun _ => ?_) | refine WP.condN (by rfl) (fun _ => ?_) (fun _ => ?_) | refine WP.cond (by rfl) (fun _ => ?_) (fun _ => ?_) | fail
      · rename_i hltk
        have hlk : k < ss[j].length := by omega
        repeat' (first | refine WL.step (o_s (by rfl) ?_) | refine WL.step (o_len (by rfl) ?_) | refine WL.step (o_add (by rfl) (by rfl) (by unfold InI; omega) ?_) | refine WL.step (o_sub (by rfl) (by rfl) (by unfold InI; omega) ?_) | refine WL.step (OpW.pass (by rfl) ?_) | refine WL.nil ?_ | refine thenN ?_ | refine WP.region ?_ | refine WP.seq ?_ | refine WP.block ?_ | refine thenR ?_ | refine thenX ?_ | refine blkN ?_ | refine blkHit ?_ | refine blkR ?_ | refine blkMiss (by rfl) ?_ | refine WP.ret ?_ | refine WP.exit ?_ | refine WP.skip ?_ | refine WP.label ?_ | refine WP.condT (by rfl) ?_ | refine WP.condF (by rfl) ?_ | fail)
        refine WL.ixload hSS7 (List.getElem?_eq_getElem hlj) ?_
        intro p4 u4 hu4
        repeat' (first | refine WL.step (o_s (by rfl) ?_) | refine WL.step (o_len (by rfl) ?_) | refine WL.step (o_add (by rfl) (by rfl) (by unfold InI; omega) ?_) | refine WL.step (o_sub (by rfl) (by rfl) (by unfold InI; omega) ?_) | refine WL.step (OpW.pass (by rfl) ?_) | refine WL.nil ?_ | refine thenN ?_ | refine WP.region ?_ | refine WP.seq ?_ | refine WP.block ?_ | refine thenR ?_ | refine thenX ?_ | refine blkN ?_ | refine blkHit ?_ | refine blkR ?_ | refine blkMiss (by rfl) ?_ | refine WP.ret ?_ | refine WP.exit ?_ | refine WP.skip ?_ | refine WP.label ?_ | refine WP.condT (by rfl) ?_ | refine WP.condF (by rfl) ?_ | fail)
        refine WL.ixload hu4 (List.getElem?_eq_getElem hlk) ?_
        rintro p5 _ rfl
        refine WL.step (o_addW (by rfl) (by rfl) ?_)
        refine o_append1 (u := .int .i64 _) (fun _ => by rfl) (by rfl) hown7 rfl (by simp only [Ints_length, List.length_append, List.length_cons, List.length_map, List.length_take]; unfold maxLen; omega) (by simp only [Ints_length, List.length_append, List.length_cons, List.length_map, List.length_take]; omega) (by omega) ?_
        intro p6 v8 w8 hown8 hbl8 _ _ _
        repeat' (first | refine WL.step (o_s (by rfl) ?_) | refine WL.step (o_len (by rfl) ?_) | refine WL.step (o_add (by rfl) (by rfl) (by unfold InI; omega) ?_) | refine WL.step (o_sub (by rfl) (by rfl) (by unfold InI; omega) ?_) | refine WL.step (OpW.pass (by rfl) ?_) | refine WL.nil ?_ | refine thenN ?_ | refine WP.region ?_ | refine WP.seq ?_ | refine WP.block ?_ | refine thenR ?_ | refine thenX ?_ | refine blkN ?_ | refine blkHit ?_ | refine blkR ?_ | refine blkMiss (by rfl) ?_ | refine WP.ret ?_ | refine WP.exit ?_ | refine WP.skip ?_ | refine WP.label ?_ | refine WP.condT (by rfl) ?_ | refine WP.condF (by rfl) ?_ | fail)
        refine ⟨(k + 1, v8), ⟨rfl, rfl, rfl, (by first | rfl | (show some (Value.int .i64 _) = some (Value.int .i64 _); refine congrArg some (congrArg (Value.int IntKind.i64) ?_); omega)), trivial⟩, ⟨by dsimp only; omega, ?_, hbl7.trans hbl8⟩, by dsimp only; omega⟩
        dsimp only
        rw [List.take_succ_eq_append_getElem hlk, List.map_append, ← List.append_assoc, Ints_append]
        exact hown8
      · rename_i hgek
        have hke : k = ss[j].length := by omega
        rw [hke, List.take_length] at hown7
        repeat' (first | refine WL.step (o_s (by rfl) ?_) | refine WL.step (o_len (by rfl) ?_) | refine WL.step (o_add (by rfl) (by rfl) (by unfold InI; omega) ?_) | refine WL.step (o_sub (by rfl) (by rfl) (by unfold InI; omega) ?_) | refine WL.step (OpW.pass (by rfl) ?_) | refine WL.nil ?_ | refine thenN ?_ | refine WP.region ?_ | refine WP.seq ?_ | refine WP.block ?_ | refine thenR ?_ | refine thenX ?_ | refine blkN ?_ | refine blkHit ?_ | refine blkR ?_ | refine blkMiss (by rfl) ?_ | refine WP.ret ?_ | refine WP.exit ?_ | refine WP.skip ?_ | refine WP.label ?_ | refine WP.condT (by rfl) ?_ | refine WP.condF (by rfl) ?_ | fail)
        refine ⟨(j + 1, vk), ⟨rfl, rfl, (by first | rfl | (show some (Value.int .i64 _) = some (Value.int .i64 _); refine congrArg some (congrArg (Value.int IntKind.i64) ?_); omega)), trivial⟩, ⟨by dsimp only; omega, ?_, hbl7⟩, by dsimp only; omega⟩
        dsimp only
        rw [flat_take_succ hlj, List.map_append]
        exact hown7
    · rename_i hgej
      have hje : j = ss.length := by omega
      rw [hje, List.take_length] at hown6
      repeat' (first | refine WL.step (o_s (by rfl) ?_) | refine WL.step (o_len (by rfl) ?_) | refine WL.step (o_add (by rfl) (by rfl) (by unfold InI; omega) ?_) | refine WL.step (o_sub (by rfl) (by rfl) (by unfold InI; omega) ?_) | refine WL.step (OpW.pass (by rfl) ?_) | refine WL.nil ?_ | refine thenN ?_ | refine WP.region ?_ | refine WP.seq ?_ | refine WP.block ?_ | refine thenR ?_ | refine thenX ?_ | refine blkN ?_ | refine blkHit ?_ | refine blkR ?_ | refine blkMiss (by rfl) ?_ | refine WP.ret ?_ | refine WP.exit ?_ | refine WP.skip ?_ | refine WP.label ?_ | refine WP.condT (by rfl) ?_ | refine WP.condF (by rfl) ?_ | fail)
      refine ⟨_, ret1 rfl (by rfl), ?_⟩
      exact ⟨hown6.lower (by omega), ((hbl2.trans (Below.mono hbl3 (by omega))).trans (Below.mono hbl4 (by omega))).trans (Below.mono (hbl5.trans hbl6) (by omega))⟩
end Go.Proofs
