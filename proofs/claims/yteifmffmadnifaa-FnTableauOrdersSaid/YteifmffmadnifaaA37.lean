/- All trees, the reference's way. -/
import Derived.Test.YteifmffmadnifaaA36
namespace Go.Fw
open Go Go.RowKit
theorem grown_of_below {w w' : World} (h : Below w.heap.size w w') (row : Option Nat) : w.grownBy w' row := ⟨h.os, h.tape, h.output, h.size, fun k hk _ => h.block k hk⟩
theorem grown_trans {w w1 w2 : World} {row row2 : Option Nat} (h : w.grownBy w1 row) (h2 : w1.grownBy w2 row2) (hr : ∀ k, row2 = some k → row = some k ∨ w.heap.size ≤ k) : w.grownBy w2 row :=
  ⟨h2.os.trans h.os, h2.tape.trans h.tape, h2.output.trans h.output, Nat.le_trans h.size h2.size, fun k hk hne => by
    rw [h2.block k (Nat.lt_of_lt_of_le hk h.size) (fun e => by rcases hr k e.symm with h1 | h1; exact hne h1.symm; omega)]
    exact h.block k hk hne⟩
end Go.Fw
namespace Go.Proofs
open Go Go.Fw Go.RowKit Go.Rk
theorem l01Own_grow {lo hi : Nat} {w : World} {v : Value} {xs : List Int} (h : IS lo hi w v xs) (hn : xs.length ≤ 1000000) : Does Try.prog 102 [v] w fun r w' => NewI w r w' xs := by
  obtain ⟨a, c, hv⟩ := h.shape
  rw [hv] at h ⊢
  refine Does.enter Try.func102 Try.ntmps102 rfl (by rfl) ?_
  repeat' (first | refine WL.step (o_s (by rfl) ?_) | refine WL.step (o_len (by rfl) ?_) | refine WL.step (o_add (by rfl) (by rfl) (by unfold InI; omega) ?_) | refine WL.step (o_sub (by rfl) (by rfl) (by unfold InI; omega) ?_) | refine WL.step (OpW.pass (by rfl) ?_) | refine WL.nil ?_ | refine thenN ?_ | refine WP.region ?_ | refine WP.seq ?_ | refine WP.block ?_ | refine thenR ?_ | refine thenX ?_ | refine blkN ?_ | refine blkHit ?_ | refine blkR ?_ | refine blkMiss (by rfl) ?_ | refine WP.ret ?_ | refine WP.exit ?_ | refine WP.skip ?_ | refine WP.label ?_ | refine WP.condT (by rfl) ?_ | refine WP.condF (by rfl) ?_ | fail)
  refine WL.step (o_lit (us := []) (by rfl) (by rfl) rfl (by decide) one0 ?_)
  intro v1 w1 hown1 hbl1 hz1 _
  repeat' (first | refine WL.step (o_s (by rfl) ?_) | refine WL.step (o_len (by rfl) ?_) | refine WL.step (o_add (by rfl) (by rfl) (by unfold InI; omega) ?_) | refine WL.step (o_sub (by rfl) (by rfl) (by unfold InI; omega) ?_) | refine WL.step (OpW.pass (by rfl) ?_) | refine WL.nil ?_ | refine thenN ?_ | refine WP.region ?_ | refine WP.seq ?_ | refine WP.block ?_ | refine thenR ?_ | refine thenX ?_ | refine blkN ?_ | refine blkHit ?_ | refine blkR ?_ | refine blkMiss (by rfl) ?_ | refine WP.ret ?_ | refine WP.exit ?_ | refine WP.skip ?_ | refine WP.label ?_ | refine WP.condT (by rfl) ?_ | refine WP.condF (by rfl) ?_ | fail)
  refine WL.step (o_append (news := Ints xs) (by rfl) (by rfl) hown1 (IS.src (h.below RI.stable hbl1 h.hi_le)) Ints_one (by simp [Ints, maxLen]; omega) (by simp [Ints]; omega) (by omega) ?_)
  intro v2 w2 hown2 hg2 hbl2 _
  repeat' (first | refine WL.step (o_s (by rfl) ?_) | refine WL.step (o_len (by rfl) ?_) | refine WL.step (o_add (by rfl) (by rfl) (by unfold InI; omega) ?_) | refine WL.step (o_sub (by rfl) (by rfl) (by unfold InI; omega) ?_) | refine WL.step (OpW.pass (by rfl) ?_) | refine WL.nil ?_ | refine thenN ?_ | refine WP.region ?_ | refine WP.seq ?_ | refine WP.block ?_ | refine thenR ?_ | refine thenX ?_ | refine blkN ?_ | refine blkHit ?_ | refine blkR ?_ | refine blkMiss (by rfl) ?_ | refine WP.ret ?_ | refine WP.exit ?_ | refine WP.skip ?_ | refine WP.label ?_ | refine WP.condT (by rfl) ?_ | refine WP.condF (by rfl) ?_ | fail)
  refine ⟨_, ret1 rfl (by rfl), ?_⟩
  exact ⟨by simpa using hown2, hbl1.trans hbl2⟩
theorem growDown_len (g : Int → List (List Int)) (m : Nat) : growDown g (m + 1) = g ((m : Int) + 1) ++ growDown g m := rfl
set_option maxHeartbeats 1000000 in
theorem l03Grow_any (n : Nat) (hn6 : n ≤ 6) (f : Nat) : ∀ {B lo hi : Nat} {w : World} {vt vo : Value} {t : List Int} {vs : List Value} {xss : List (List Int)}, OwI 2 lo hi w vt t → Lv t → t.length + f = n → OwSSv 23 2 B w.heap.size w vo vs xss → B ≤ w.heap.size → xss.length + (growL f t).length ≤ 1000000 →
    Does Try.prog 128 [vt, .int .i64 (n : Nat), vo] w fun r w' => (∃ vs', OwSSv 23 2 B w'.heap.size w' r vs' (xss ++ growL f t)) ∧ w.grownBy w' vo.ownBlock ∧ (∀ k, r.ownBlock = some k → vo.ownBlock = some k ∨ w.heap.size ≤ k) := by
  induction f with
  | zero =>
    intro B lo hi w vt vo t vs xss hT ht hlen hO hBw hbig
    have hIS := hT.rd
    obtain ⟨a, c, hvt⟩ := hIS.shape
    subst hvt
    obtain ⟨ao, co, hvo, _⟩ := hO.own.shape
    have hvl := hO.len
    have hhi := hT.hi_le
    refine Does.enter Try.func128 Try.ntmps128 rfl (by rfl) ?_
    repeat' (first | refine WL.step (o_s (by rfl) ?_) | refine WL.step (o_len (by rfl) ?_) | refine WL.step (o_add (by rfl) (by rfl) (by unfold InI; omega) ?_) | refine WL.step (o_sub (by rfl) (by rfl) (by unfold InI; omega) ?_) | refine WL.step (OpW.pass (by rfl) ?_) | refine WL.nil ?_ | refine thenN ?_ | refine WP.region ?_ | refine WP.seq ?_ | refine WP.block ?_ | refine thenR ?_ | refine thenX ?_ | refine blkN ?_ | refine blkHit ?_ | refine blkR ?_ | refine blkMiss (by rfl) ?_ | refine WP.ret ?_ | refine WP.exit ?_ | refine WP.skip ?_ | refine WP.label ?_ | refine WP.condT (by rfl) ?_ | refine WP.condF (by rfl) ?_ | fail)
    refine WP.condD (by rfl) (fun _ => ?_) (fun hb => absurd hlen (by omega))
    repeat' (first | refine WL.step (o_s (by rfl) ?_) | refine WL.step (o_len (by rfl) ?_) | refine WL.step (o_add (by rfl) (by rfl) (by unfold InI; omega) ?_) | refine WL.step (o_sub (by rfl) (by rfl) (by unfold InI; omega) ?_) | refine WL.step (OpW.pass (by rfl) ?_) | refine WL.nil ?_ | refine thenN ?_ | refine WP.region ?_ | refine WP.seq ?_ | refine WP.block ?_ | refine thenR ?_ | refine thenX ?_ | refine blkN ?_ | refine blkHit ?_ | refine blkR ?_ | refine blkMiss (by rfl) ?_ | refine WP.ret ?_ | refine WP.exit ?_ | refine WP.skip ?_ | refine WP.label ?_ | refine WP.condT (by rfl) ?_ | refine WP.condF (by rfl) ?_ | fail)
    refine WL.call (l03Canon_any 8 (Nat.le_refl _) hIS ht (by omega)) ?_
    intro v1 w1 hN1
    have hz1 := hN1.2.size
    repeat' (first | refine WL.step (o_s (by rfl) ?_) | refine WL.step (o_len (by rfl) ?_) | refine WL.step (o_add (by rfl) (by rfl) (by unfold InI; omega) ?_) | refine WL.step (o_sub (by rfl) (by rfl) (by unfold InI; omega) ?_) | refine WL.step (OpW.pass (by rfl) ?_) | refine WL.nil ?_ | refine thenN ?_ | refine WP.region ?_ | refine WP.seq ?_ | refine WP.block ?_ | refine thenR ?_ | refine thenX ?_ | refine blkN ?_ | refine blkHit ?_ | refine blkR ?_ | refine blkMiss (by rfl) ?_ | refine WP.ret ?_ | refine WP.exit ?_ | refine WP.skip ?_ | refine WP.label ?_ | refine WP.condT (by rfl) ?_ | refine WP.condF (by rfl) ?_ | fail)
    refine WL.call (l01Same_any hN1.ow.rd (hIS.below RI.stable hN1.2 hhi)) ?_
    rintro _ w2 ⟨rfl, hs2⟩
    have hz2 := hs2.size
    have hbl2 : Below w.heap.size w w2 := hN1.2.trans (hs2.below _)
    repeat' (first | refine WL.step (o_s (by rfl) ?_) | refine WL.step (o_len (by rfl) ?_) | refine WL.step (o_add (by rfl) (by rfl) (by unfold InI; omega) ?_) | refine WL.step (o_sub (by rfl) (by rfl) (by unfold InI; omega) ?_) | refine WL.step (OpW.pass (by rfl) ?_) | refine WL.nil ?_ | refine thenN ?_ | refine WP.region ?_ | refine WP.seq ?_ | refine WP.block ?_ | refine thenR ?_ | refine thenX ?_ | refine blkN ?_ | refine blkHit ?_ | refine blkR ?_ | refine blkMiss (by rfl) ?_ | refine WP.ret ?_ | refine WP.exit ?_ | refine WP.skip ?_ | refine WP.label ?_ | refine WP.condT (by rfl) ?_ | refine WP.condF (by rfl) ?_ | fail)
    first | refine WP.condD (by rfl) (fun _ => ?_) (fun _ => ?_) | refine WP.condND (by rfl) (fun _ => ?_) (fun _ => ?_) | refine WP.condN (by rfl) (fun _ => ?_) (fun _ => ?_) | refine WP.cond (by rfl) (fun _ => ?_) (fun _ => ?_) | fail
    · rename_i hsame
      have hg : growL 0 t = [t] := by unfold growL; rw [if_pos hsame]
      rw [hg] at hbig ⊢
      have hbig' : xss.length + 1 ≤ 1000000 := hbig
      repeat' (first | refine WL.step (o_s (by rfl) ?_) | refine WL.step (o_len (by rfl) ?_) | refine WL.step (o_add (by rfl) (by rfl) (by unfold InI; omega) ?_) | refine WL.step (o_sub (by rfl) (by rfl) (by unfold InI; omega) ?_) | refine WL.step (OpW.pass (by rfl) ?_) | refine WL.nil ?_ | refine thenN ?_ | refine WP.region ?_ | refine WP.seq ?_ | refine WP.block ?_ | refine thenR ?_ | refine thenX ?_ | refine blkN ?_ | refine blkHit ?_ | refine blkR ?_ | refine blkMiss (by rfl) ?_ | refine WP.ret ?_ | refine WP.exit ?_ | refine WP.skip ?_ | refine WP.label ?_ | refine WP.condT (by rfl) ?_ | refine WP.condF (by rfl) ?_ | fail)
      refine WL.call (l01Own_grow (hIS.below RI.stable hbl2 hhi) (by omega)) ?_
      intro v3 w3 hN3
      have hz3 := hN3.2.size
      have hbl3 : Below w.heap.size w w3 := hbl2.trans (Below.mono hN3.2 (by omega))
      obtain ⟨a3, c3, hv3, _⟩ := hN3.1.shape
      have o3 := hO.chg (Chg.of_below hbl3) (by omega)
      refine o_append1K (u := v3) (fun _ => by rfl) (by rfl) o3.own (by rw [hv3]; rfl) (by simp [hvl, maxLen]; omega) (by simp [hvl]; omega) (by omega) ?_
      intro p4 v4 w4 hown4 hbl4 hf4 hz4 hk4
      have o4 := o3.snoc hN3.ow (by omega) (by omega) hown4 (by omega) hf4
      repeat' (first | refine WL.step (o_s (by rfl) ?_) | refine WL.step (o_len (by rfl) ?_) | refine WL.step (o_add (by rfl) (by rfl) (by unfold InI; omega) ?_) | refine WL.step (o_sub (by rfl) (by rfl) (by unfold InI; omega) ?_) | refine WL.step (OpW.pass (by rfl) ?_) | refine WL.nil ?_ | refine thenN ?_ | refine WP.region ?_ | refine WP.seq ?_ | refine WP.block ?_ | refine thenR ?_ | refine thenX ?_ | refine blkN ?_ | refine blkHit ?_ | refine blkR ?_ | refine blkMiss (by rfl) ?_ | refine WP.ret ?_ | refine WP.exit ?_ | refine WP.skip ?_ | refine WP.label ?_ | refine WP.condT (by rfl) ?_ | refine WP.condF (by rfl) ?_ | fail)
      refine ⟨_, ret1 rfl (by rfl), ?_⟩
      refine ⟨⟨_, o4⟩, ⟨by rw [hbl4.os, hbl3.os], by rw [hbl4.tape, hbl3.tape], by rw [hbl4.output, hbl3.output], by omega, fun k hk hne => by rw [hf4 k (by omega) (fun e => hne e.symm), hbl3.block k hk]⟩, fun k hk => (hk4 k hk).imp id (fun h => by omega)⟩
    · rename_i hdiff
      have hg : growL 0 t = [] := by unfold growL; rw [if_neg hdiff]
      rw [hg, List.append_nil]
      repeat' (first | refine WL.step (o_s (by rfl) ?_) | refine WL.step (o_len (by rfl) ?_) | refine WL.step (o_add (by rfl) (by rfl) (by unfold InI; omega) ?_) | refine WL.step (o_sub (by rfl) (by rfl) (by unfold InI; omega) ?_) | refine WL.step (OpW.pass (by rfl) ?_) | refine WL.nil ?_ | refine thenN ?_ | refine WP.region ?_ | refine WP.seq ?_ | refine WP.block ?_ | refine thenR ?_ | refine thenX ?_ | refine blkN ?_ | refine blkHit ?_ | refine blkR ?_ | refine blkMiss (by rfl) ?_ | refine WP.ret ?_ | refine WP.exit ?_ | refine WP.skip ?_ | refine WP.label ?_ | refine WP.condT (by rfl) ?_ | refine WP.condF (by rfl) ?_ | fail)
      refine ⟨_, ret1 rfl (by rfl), ?_⟩
      exact ⟨⟨vs, (hO.chg (Chg.of_below hbl2) (by omega)).wide (Nat.le_refl _) (by omega) (Nat.le_refl _)⟩, grown_of_below hbl2 _, fun k hk => .inl hk⟩
  | succ f ih =>
    intro B lo hi w vt vo t vs xss hT ht hlen hO hBw hbig
    have hIS := hT.rd
    obtain ⟨a, c, hvt⟩ := hIS.shape
    subst hvt
    have hhi := hT.hi_le
    have hp := ht.pos
    have hlt : t.length - 1 < t.length := by omega
    have hlast : t.getLast? = some t[t.length - 1] := by rw [List.getLast?_eq_getElem?, List.getElem?_eq_getElem hlt]
    have hbd := ht.bd hlt
    obtain ⟨m0, hm0⟩ : ∃ m0, (t[t.length - 1] + 1).toNat = m0 := ⟨_, rfl⟩
    have hm0' : t[t.length - 1] + 1 = (m0 : Int) := by omega
    obtain ⟨g, hg⟩ : ∃ g : Int → List (List Int), (fun l => growL f (t ++ [l])) = g := ⟨_, rfl⟩
    have hgl : growL (f + 1) t = growDown g m0 := by
      unfold growL
      rw [hlast, Option.getD_some, hm0, hg]
    have hg1 : ∀ l, g l = growL f (t ++ [l]) := fun l => by rw [← hg]
    rw [hgl] at hbig ⊢
    refine Does.enter Try.func128 Try.ntmps128 rfl (by rfl) ?_
    repeat' (first | refine WL.step (o_s (by rfl) ?_) | refine WL.step (o_len (by rfl) ?_) | refine WL.step (o_add (by rfl) (by rfl) (by unfold InI; omega) ?_) | refine WL.step (o_sub (by rfl) (by rfl) (by unfold InI; omega) ?_) | refine WL.step (OpW.pass (by rfl) ?_) | refine WL.nil ?_ | refine thenN ?_ | refine WP.region ?_ | refine WP.seq ?_ | refine WP.block ?_ | refine thenR ?_ | refine thenX ?_ | refine blkN ?_ | refine blkHit ?_ | refine blkR ?_ | refine blkMiss (by rfl) ?_ | refine WP.ret ?_ | refine WP.exit ?_ | refine WP.skip ?_ | refine WP.label ?_ | refine WP.condT (by rfl) ?_ | refine WP.condF (by rfl) ?_ | fail)
    refine WP.condD (by rfl) (fun hb => absurd hlen (by omega)) (fun _ => ?_)
    repeat' (first | refine WL.step (o_s (by rfl) ?_) | refine WL.step (o_len (by rfl) ?_) | refine WL.step (o_add (by rfl) (by rfl) (by unfold InI; omega) ?_) | refine WL.step (o_sub (by rfl) (by rfl) (by unfold InI; omega) ?_) | refine WL.step (OpW.pass (by rfl) ?_) | refine WL.nil ?_ | refine thenN ?_ | refine WP.region ?_ | refine WP.seq ?_ | refine WP.block ?_ | refine thenR ?_ | refine thenX ?_ | refine blkN ?_ | refine blkHit ?_ | refine blkR ?_ | refine blkMiss (by rfl) ?_ | refine WP.ret ?_ | refine WP.exit ?_ | refine WP.skip ?_ | refine WP.label ?_ | refine WP.condT (by rfl) ?_ | refine WP.condF (by rfl) ?_ | fail)
    refine WL.ixload (j := t.length - 1) hIS (List.getElem?_eq_getElem hlt) ?_
    rintro p1 _ rfl
    repeat' (first | refine WL.step (o_s (by rfl) ?_) | refine WL.step (o_len (by rfl) ?_) | refine WL.step (o_add (by rfl) (by rfl) (by unfold InI; omega) ?_) | refine WL.step (o_sub (by rfl) (by rfl) (by unfold InI; omega) ?_) | refine WL.step (OpW.pass (by rfl) ?_) | refine WL.nil ?_ | refine thenN ?_ | refine WP.region ?_ | refine WP.seq ?_ | refine WP.block ?_ | refine thenR ?_ | refine thenX ?_ | refine blkN ?_ | refine blkHit ?_ | refine blkR ?_ | refine blkMiss (by rfl) ?_ | refine WP.ret ?_ | refine WP.exit ?_ | refine WP.skip ?_ | refine WP.label ?_ | refine WP.condT (by rfl) ?_ | refine WP.condF (by rfl) ?_ | fail)
    refine WP.loop (fun (s : Nat × Value × List (List Int)) => [(0, .slice a t.length c), (1, .int .i64 (n : Nat)), (2, s.2.1), (7, .int .i64 (s.1 : Nat))])
      (fun s w1 => s.1 ≤ m0 ∧ xss ++ growDown g m0 = s.2.2 ++ growDown g s.1 ∧ (∃ vs1, OwSSv 23 2 B w1.heap.size w1 s.2.1 vs1 s.2.2) ∧ w.grownBy w1 vo.ownBlock ∧ (∀ k, s.2.1.ownBlock = some k → vo.ownBlock = some k ∨ w.heap.size ≤ k))
      (fun s => s.1) (m0, vo, xss) ⟨rfl, rfl, rfl, (by first | rfl | (show some (Value.int .i64 _) = some (Value.int .i64 _); refine congrArg some (congrArg (Value.int IntKind.i64) ?_); omega)), trivial⟩ ⟨Nat.le_refl _, rfl, ⟨vs, hO⟩, grown_of_below (Below.refl _ _) _, fun k hk => .inl hk⟩ ?_
    rintro ⟨m, v1, cur⟩ w1 ⟨hm, hcur, ⟨vs1, o1⟩, hgr1, hbk1⟩
    dsimp only at hm hcur o1 hbk1 ⊢
    have hz1 := hgr1.size
    have hT1 : OwI 2 lo hi w1 (.slice a t.length c) t := ⟨hT.own.keep fun k hk => hgr1.block k (hT.own.block k hk).2 (fun e => hO.own.ne_block hT.own hO.ne e.symm hk), hT.lt, by omega⟩
    repeat' (first | refine WL.step (o_s (by rfl) ?_) | refine WL.step (o_len (by rfl) ?_) | refine WL.step (o_add (by rfl) (by rfl) (by unfold InI; omega) ?_) | refine WL.step (o_sub (by rfl) (by rfl) (by unfold InI; omega) ?_) | refine WL.step (OpW.pass (by rfl) ?_) | refine WL.nil ?_ | refine thenN ?_ | refine WP.region ?_ | refine WP.seq ?_ | refine WP.block ?_ | refine thenR ?_ | refine thenX ?_ | refine blkN ?_ | refine blkHit ?_ | refine blkR ?_ | refine blkMiss (by rfl) ?_ | refine WP.ret ?_ | refine WP.exit ?_ | refine WP.skip ?_ | refine WP.label ?_ | refine WP.condT (by rfl) ?_ | refine WP.condF (by rfl) ?_ | fail)
    by_cases hm1 : m = 0
    · subst hm1
      refine WP.condD (by rfl) (fun hb => absurd hb (by omega)) (fun _ => ?_)
      repeat' (first | refine WL.step (o_s (by rfl) ?_) | refine WL.step (o_len (by rfl) ?_) | refine WL.step (o_add (by rfl) (by rfl) (by unfold InI; omega) ?_) | refine WL.step (o_sub (by rfl) (by rfl) (by unfold InI; omega) ?_) | refine WL.step (OpW.pass (by rfl) ?_) | refine WL.nil ?_ | refine thenN ?_ | refine WP.region ?_ | refine WP.seq ?_ | refine WP.block ?_ | refine thenR ?_ | refine thenX ?_ | refine blkN ?_ | refine blkHit ?_ | refine blkR ?_ | refine blkMiss (by rfl) ?_ | refine WP.ret ?_ | refine WP.exit ?_ | refine WP.skip ?_ | refine WP.label ?_ | refine WP.condT (by rfl) ?_ | refine WP.condF (by rfl) ?_ | fail)
      refine ⟨_, ret1 rfl (by rfl), ?_⟩
      have e : xss ++ growDown g m0 = cur := by rw [hcur]; simp [growDown]
      rw [e]
      exact ⟨⟨vs1, o1⟩, hgr1, hbk1⟩
    · obtain ⟨m', hm'⟩ : ∃ m', m = m' + 1 := ⟨m - 1, by omega⟩
      subst hm'
      rw [growDown_len, ← List.append_assoc] at hcur
      have hcl : cur.length + (growL f (t ++ [(m' : Int) + 1])).length ≤ 1000000 := by
        have e := congrArg List.length hcur
        rw [hg1] at e
        simp only [List.length_append] at e
        omega
      have hLv : Lv (t ++ [(m' : Int) + 1]) := ht.snoc hlast (by omega) (by omega)
      refine WP.condD (by rfl) (fun _ => ?_) (fun hb => absurd hb (by omega))
      repeat' (first | refine WL.step (o_s (by rfl) ?_) | refine WL.step (o_len (by rfl) ?_) | refine WL.step (o_add (by rfl) (by rfl) (by unfold InI; omega) ?_) | refine WL.step (o_sub (by rfl) (by rfl) (by unfold InI; omega) ?_) | refine WL.step (OpW.pass (by rfl) ?_) | refine WL.nil ?_ | refine thenN ?_ | refine WP.region ?_ | refine WP.seq ?_ | refine WP.block ?_ | refine thenR ?_ | refine thenX ?_ | refine blkN ?_ | refine blkHit ?_ | refine blkR ?_ | refine blkMiss (by rfl) ?_ | refine WP.ret ?_ | refine WP.exit ?_ | refine WP.skip ?_ | refine WP.label ?_ | refine WP.condT (by rfl) ?_ | refine WP.condF (by rfl) ?_ | fail)
      refine WL.call (l01Own_grow hT1.rd (by omega)) ?_
      intro v2 w2 hN2
      have hz2 := hN2.2.size
      repeat' (first | refine WL.step (o_s (by rfl) ?_) | refine WL.step (o_len (by rfl) ?_) | refine WL.step (o_add (by rfl) (by rfl) (by unfold InI; omega) ?_) | refine WL.step (o_sub (by rfl) (by rfl) (by unfold InI; omega) ?_) | refine WL.step (OpW.pass (by rfl) ?_) | refine WL.nil ?_ | refine thenN ?_ | refine WP.region ?_ | refine WP.seq ?_ | refine WP.block ?_ | refine thenR ?_ | refine thenX ?_ | refine blkN ?_ | refine blkHit ?_ | refine blkR ?_ | refine blkMiss (by rfl) ?_ | refine WP.ret ?_ | refine WP.exit ?_ | refine WP.skip ?_ | refine WP.label ?_ | refine WP.condT (by rfl) ?_ | refine WP.condF (by rfl) ?_ | fail)
      refine o_append1 (u := .int .i64 _) (us := Ints t) (fun _ => by rfl) (by rfl) hN2.1 rfl (by simp [Ints, maxLen]; omega) (by simp [Ints]; omega) (by omega) ?_
      intro p3 v3 w3 hown3 hbl3 _ hz3 _
      have hbl13 : Below w1.heap.size w1 w3 := hN2.2.trans hbl3
      have hown3' : Own w1.heap.size 2 w3 v3 (Ints (t ++ [(m' : Int) + 1])) := by rw [Ints_append]; exact hown3
      have hT3 : OwI 2 w1.heap.size w3.heap.size w3 v3 (t ++ [(m' : Int) + 1]) := ⟨hown3', fun k hk => (hown3'.block k hk).2, Nat.le_refl _⟩
      have o3 := (o1.chg (Chg.of_below hbl13) (by omega)).wide (Nat.le_refl _) hbl13.size (Nat.le_refl _)
      repeat' (first | refine WL.step (o_s (by rfl) ?_) | refine WL.step (o_len (by rfl) ?_) | refine WL.step (o_add (by rfl) (by rfl) (by unfold InI; omega) ?_) | refine WL.step (o_sub (by rfl) (by rfl) (by unfold InI; omega) ?_) | refine WL.step (OpW.pass (by rfl) ?_) | refine WL.nil ?_ | refine thenN ?_ | refine WP.region ?_ | refine WP.seq ?_ | refine WP.block ?_ | refine thenR ?_ | refine thenX ?_ | refine blkN ?_ | refine blkHit ?_ | refine blkR ?_ | refine blkMiss (by rfl) ?_ | refine WP.ret ?_ | refine WP.exit ?_ | refine WP.skip ?_ | refine WP.label ?_ | refine WP.condT (by rfl) ?_ | refine WP.condF (by rfl) ?_ | fail)
      refine WL.call (ih hT3 hLv (by simp; omega) o3 (by omega) hcl) ?_
      rintro r w4 ⟨⟨vs4, o4⟩, hgr4, hbk4⟩
      have hz4 := hgr4.size
      have hgr14 : w1.grownBy w4 v1.ownBlock := grown_trans (grown_of_below hbl13 _) hgr4 (fun k hk => .inl hk)
      repeat' (first | refine WL.step (o_s (by rfl) ?_) | refine WL.step (o_len (by rfl) ?_) | refine WL.step (o_add (by rfl) (by rfl) (by unfold InI; omega) ?_) | refine WL.step (o_sub (by rfl) (by rfl) (by unfold InI; omega) ?_) | refine WL.step (OpW.pass (by rfl) ?_) | refine WL.nil ?_ | refine thenN ?_ | refine WP.region ?_ | refine WP.seq ?_ | refine WP.block ?_ | refine thenR ?_ | refine thenX ?_ | refine blkN ?_ | refine blkHit ?_ | refine blkR ?_ | refine blkMiss (by rfl) ?_ | refine WP.ret ?_ | refine WP.exit ?_ | refine WP.skip ?_ | refine WP.label ?_ | refine WP.condT (by rfl) ?_ | refine WP.condF (by rfl) ?_ | fail)
      refine ⟨(m', r, cur ++ growL f (t ++ [(m' : Int) + 1])), ⟨rfl, rfl, rfl, (by first | rfl | (show some (Value.int .i64 _) = some (Value.int .i64 _); refine congrArg some (congrArg (Value.int IntKind.i64) ?_); omega)), trivial⟩, ⟨by dsimp only; omega, by rw [hcur, hg1], ⟨vs4, o4⟩, grown_trans hgr1 hgr14 hbk1, fun k hk => ?_⟩, by dsimp only; omega⟩
      rcases hbk4 k hk with h1 | h1
      · exact hbk1 k h1
      · right; have := hbl13.size; omega
theorem l03Trees_any (n : Nat) (hn0 : 1 ≤ n) (hn1 : n ≤ 6) (w : World) : Does Try.prog 74 [.int .i64 (n : Nat)] w fun r w' => NewSS 23 2 w r w' (treesN n) := by
  have hge := grow_eq hn0 hn1
  have hle := treesN_le hn0 hn1
  refine Does.enter Try.func74 Try.ntmps74 rfl (by rfl) ?_
  repeat' (first | refine WL.step (o_s (by rfl) ?_) | refine WL.step (o_len (by rfl) ?_) | refine WL.step (o_add (by rfl) (by rfl) (by unfold InI; omega) ?_) | refine WL.step (o_sub (by rfl) (by rfl) (by unfold InI; omega) ?_) | refine WL.step (OpW.pass (by rfl) ?_) | refine WL.nil ?_ | refine thenN ?_ | refine WP.region ?_ | refine WP.seq ?_ | refine WP.block ?_ | refine thenR ?_ | refine thenX ?_ | refine blkN ?_ | refine blkHit ?_ | refine blkR ?_ | refine blkMiss (by rfl) ?_ | refine WP.ret ?_ | refine WP.exit ?_ | refine WP.skip ?_ | refine WP.label ?_ | refine WP.condT (by rfl) ?_ | refine WP.condF (by rfl) ?_ | fail)
  refine WL.step (o_lit (us := [.int .i64 0]) (by rfl) (by rfl) rfl (by decide) (one1 rfl) ?_)
  intro v1 w1 hown1 hbl1 hz1 _
  have hT : OwI 2 w.heap.size w1.heap.size w1 v1 [0] := ⟨hown1, fun k hk => (hown1.block k hk).2, Nat.le_refl _⟩
  repeat' (first | refine WL.step (o_s (by rfl) ?_) | refine WL.step (o_len (by rfl) ?_) | refine WL.step (o_add (by rfl) (by rfl) (by unfold InI; omega) ?_) | refine WL.step (o_sub (by rfl) (by rfl) (by unfold InI; omega) ?_) | refine WL.step (OpW.pass (by rfl) ?_) | refine WL.nil ?_ | refine thenN ?_ | refine WP.region ?_ | refine WP.seq ?_ | refine WP.block ?_ | refine thenR ?_ | refine thenX ?_ | refine blkN ?_ | refine blkHit ?_ | refine blkR ?_ | refine blkMiss (by rfl) ?_ | refine WP.ret ?_ | refine WP.exit ?_ | refine WP.skip ?_ | refine WP.label ?_ | refine WP.condT (by rfl) ?_ | refine WP.condF (by rfl) ?_ | fail)
  refine WL.call (l03Grow_any n hn1 (n - 1) (B := w1.heap.size) (vs := []) (xss := []) hT Lv.one (by simp; omega) ⟨Own.nil _ _ _, fun k hk => by simp [Value.ownBlock] at hk, Nat.le_refl _, rfl, fun i u xs hu => by simp at hu, fun i j u u' _ hu => by simp at hu, by decide⟩ (Nat.le_refl _) (by rw [hge]; simp; omega)) ?_
  rintro r w2 ⟨⟨vs2, o2⟩, hgr2, _⟩
  have hz2 := hgr2.size
  rw [hge, List.nil_append] at o2
  repeat' (first | refine WL.step (o_s (by rfl) ?_) | refine WL.step (o_len (by rfl) ?_) | refine WL.step (o_add (by rfl) (by rfl) (by unfold InI; omega) ?_) | refine WL.step (o_sub (by rfl) (by rfl) (by unfold InI; omega) ?_) | refine WL.step (OpW.pass (by rfl) ?_) | refine WL.nil ?_ | refine thenN ?_ | refine WP.region ?_ | refine WP.seq ?_ | refine WP.block ?_ | refine thenR ?_ | refine thenX ?_ | refine blkN ?_ | refine blkHit ?_ | refine blkR ?_ | refine blkMiss (by rfl) ?_ | refine WP.ret ?_ | refine WP.exit ?_ | refine WP.skip ?_ | refine WP.label ?_ | refine WP.condT (by rfl) ?_ | refine WP.condF (by rfl) ?_ | fail)
  refine ⟨_, ret1 rfl (by rfl), ?_⟩
  exact ⟨⟨vs2, o2.wide (by omega) (Nat.le_refl _) (Nat.le_refl _)⟩, hbl1.trans ⟨hgr2.os, hgr2.tape, hgr2.output, hgr2.size, fun k hk => hgr2.block k (by omega) (by simp [Value.ownBlock])⟩⟩
theorem l03All_any (n : Nat) (hn1 : n ≤ 6) (w : World) : Does Try.prog 101 [.int .i64 (n : Nat)] w fun r w' => NewSS 23 2 w r w' (treesTo n) := by
  refine Does.enter Try.func101 Try.ntmps101 rfl (by rfl) ?_
  repeat' (first | refine WL.step (o_s (by rfl) ?_) | refine WL.step (o_len (by rfl) ?_) | refine WL.step (o_add (by rfl) (by rfl) (by unfold InI; omega) ?_) | refine WL.step (o_sub (by rfl) (by rfl) (by unfold InI; omega) ?_) | refine WL.step (OpW.pass (by rfl) ?_) | refine WL.nil ?_ | refine thenN ?_ | refine WP.region ?_ | refine WP.seq ?_ | refine WP.block ?_ | refine thenR ?_ | refine thenX ?_ | refine blkN ?_ | refine blkHit ?_ | refine blkR ?_ | refine blkMiss (by rfl) ?_ | refine WP.ret ?_ | refine WP.exit ?_ | refine WP.skip ?_ | refine WP.label ?_ | refine WP.condT (by rfl) ?_ | refine WP.condF (by rfl) ?_ | fail)
  refine WL.step (o_lit (us := []) (by rfl) (by rfl) rfl (by decide) one0 ?_)
  intro v1 w1 hown1 hbl1 hz1 _
  repeat' (first | refine WL.step (o_s (by rfl) ?_) | refine WL.step (o_len (by rfl) ?_) | refine WL.step (o_add (by rfl) (by rfl) (by unfold InI; omega) ?_) | refine WL.step (o_sub (by rfl) (by rfl) (by unfold InI; omega) ?_) | refine WL.step (OpW.pass (by rfl) ?_) | refine WL.nil ?_ | refine thenN ?_ | refine WP.region ?_ | refine WP.seq ?_ | refine WP.block ?_ | refine thenR ?_ | refine thenX ?_ | refine blkN ?_ | refine blkHit ?_ | refine blkR ?_ | refine blkMiss (by rfl) ?_ | refine WP.ret ?_ | refine WP.exit ?_ | refine WP.skip ?_ | refine WP.label ?_ | refine WP.condT (by rfl) ?_ | refine WP.condF (by rfl) ?_ | fail)
  refine WP.loop (fun (s : Nat × Value) => [(0, .int .i64 (n : Nat)), (3, s.2), (4, .int .i64 ((s.1 : Int) + 1))])
    (fun s w2 => s.1 ≤ n ∧ (∃ vs, OwSSv 23 2 w.heap.size w2.heap.size w2 s.2 vs (treesTo s.1)) ∧ Below w.heap.size w w2)
    (fun s => n - s.1) (0, v1) ⟨rfl, rfl, rfl, trivial⟩ ⟨by dsimp only; omega, ⟨[], OwSSv.none hown1 (by decide)⟩, hbl1⟩ ?_
  rintro ⟨k, vo⟩ w2 ⟨hk, ⟨vs, oA⟩, hbl2⟩
  dsimp only at hk oA ⊢
  have hz2 := hbl2.size
  have hvl : vs.length = (treesTo k).length := oA.len
  have hle := treesTo_le k (by omega)
  repeat' (first | refine WL.step (o_s (by rfl) ?_) | refine WL.step (o_len (by rfl) ?_) | refine WL.step (o_add (by rfl) (by rfl) (by unfold InI; omega) ?_) | refine WL.step (o_sub (by rfl) (by rfl) (by unfold InI; omega) ?_) | refine WL.step (OpW.pass (by rfl) ?_) | refine WL.nil ?_ | refine thenN ?_ | refine WP.region ?_ | refine WP.seq ?_ | refine WP.block ?_ | refine thenR ?_ | refine thenX ?_ | refine blkN ?_ | refine blkHit ?_ | refine blkR ?_ | refine blkMiss (by rfl) ?_ | refine WP.ret ?_ | refine WP.exit ?_ | refine WP.skip ?_ | refine WP.label ?_ | refine WP.condT (by rfl) ?_ | refine WP.condF (by rfl) ?_ | fail)
  first | refine WP.condD (by rfl) (fun _ => ?_) (fun _ => ?_) | refine WP.condND (by rfl) (fun _ => ?_) (fun _ => ?_) | refine WP.condN (by rfl) (fun _ => ?_) (fun _ => ?_) | refine WP.cond (by rfl) (fun _ => ?_) (fun _ => ?_) | fail
  · rename_i hlt
    have hle2 := treesN_le (n := k + 1) (by omega) (by omega)
    repeat' (first | refine WL.step (o_s (by rfl) ?_) | refine WL.step (o_len (by rfl) ?_) | refine WL.step (o_add (by rfl) (by rfl) (by unfold InI; omega) ?_) | refine WL.step (o_sub (by rfl) (by rfl) (by unfold InI; omega) ?_) | refine WL.step (OpW.pass (by rfl) ?_) | refine WL.nil ?_ | refine thenN ?_ | refine WP.region ?_ | refine WP.seq ?_ | refine WP.block ?_ | refine thenR ?_ | refine thenX ?_ | refine blkN ?_ | refine blkHit ?_ | refine blkR ?_ | refine blkMiss (by rfl) ?_ | refine WP.ret ?_ | refine WP.exit ?_ | refine WP.skip ?_ | refine WP.label ?_ | refine WP.condT (by rfl) ?_ | refine WP.condF (by rfl) ?_ | fail)
    refine WL.call (l03Trees_any (k + 1) (by omega) (by omega) _) ?_ (hx := by rfl)
    rintro v3 w3 ⟨⟨us, o3⟩, hbl3⟩
    have hz3 := hbl3.size
    have hul : us.length = (treesN (k + 1)).length := o3.len
    have oA3 := oA.chg (Chg.of_below hbl3) (by omega)
    refine WL.step (o_append (us := vs) (news := us) (by rfl) (by rfl) oA3.own o3.own.src o3.one (by simp [maxLen]; omega) (by omega) (by omega) ?_)
    intro v4 w4 hown4 hg4 hbl4 _
    have hz4 := hg4.size
    have o4 := oA3.appendSS o3 (by omega) (by omega) hown4 hz4 (fun k hk hne => hg4.block k hk (fun e => hne e.symm))
    repeat' (first | refine WL.step (o_s (by rfl) ?_) | refine WL.step (o_len (by rfl) ?_) | refine WL.step (o_add (by rfl) (by rfl) (by unfold InI; omega) ?_) | refine WL.step (o_sub (by rfl) (by rfl) (by unfold InI; omega) ?_) | refine WL.step (OpW.pass (by rfl) ?_) | refine WL.nil ?_ | refine thenN ?_ | refine WP.region ?_ | refine WP.seq ?_ | refine WP.block ?_ | refine thenR ?_ | refine thenX ?_ | refine blkN ?_ | refine blkHit ?_ | refine blkR ?_ | refine blkMiss (by rfl) ?_ | refine WP.ret ?_ | refine WP.exit ?_ | refine WP.skip ?_ | refine WP.label ?_ | refine WP.condT (by rfl) ?_ | refine WP.condF (by rfl) ?_ | fail)
    exact ⟨(k + 1, v4), ⟨rfl, rfl, (by first | rfl | (show some (Value.int .i64 _) = some (Value.int .i64 _); refine congrArg some (congrArg (Value.int IntKind.i64) ?_); omega)), trivial⟩, ⟨by dsimp only; omega, ⟨_, o4⟩, (hbl2.trans (Below.mono hbl3 (by omega))).trans hbl4⟩, by dsimp only; omega⟩
  · rename_i hge
    have hke : k = n := by omega
    subst hke
    repeat' (first | refine WL.step (o_s (by rfl) ?_) | refine WL.step (o_len (by rfl) ?_) | refine WL.step (o_add (by rfl) (by rfl) (by unfold InI; omega) ?_) | refine WL.step (o_sub (by rfl) (by rfl) (by unfold InI; omega) ?_) | refine WL.step (OpW.pass (by rfl) ?_) | refine WL.nil ?_ | refine thenN ?_ | refine WP.region ?_ | refine WP.seq ?_ | refine WP.block ?_ | refine thenR ?_ | refine thenX ?_ | refine blkN ?_ | refine blkHit ?_ | refine blkR ?_ | refine blkMiss (by rfl) ?_ | refine WP.ret ?_ | refine WP.exit ?_ | refine WP.skip ?_ | refine WP.label ?_ | refine WP.condT (by rfl) ?_ | refine WP.condF (by rfl) ?_ | fail)
    refine ⟨_, ret1 rfl (by rfl), ?_⟩
    exact ⟨⟨vs, oA⟩, hbl2⟩
end Go.Proofs
