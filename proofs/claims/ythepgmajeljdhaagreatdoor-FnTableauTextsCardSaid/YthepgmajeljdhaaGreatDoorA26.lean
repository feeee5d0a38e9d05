/- Level lists: the program's test and the reference's. -/
import Derived.Test.YthepgmajeljdhaaGreatDoorA5
import Derived.Test.YthepgmajeljdhaaGreatDoorPlA
import Derived.Test.YthepgmajeljdhaaGreatDoorA14
import Derived.Test.YthepgmajeljdhaaGreatDoorA21
import Derived.Test.YthepgmajeljdhaaGreatDoorHB
namespace Go.Fw
open Go Go.RowKit
section
variable {P : Program} {N : Nat} {Q : Exit → Fr → World → Prop} {S : World → Prop} {l : Fr} {w : World} {ops : Array Oper} {K : Fr → World → Prop}
variable {d : Nat} {ty : TypeId} {pos : String} {af : Array Edge} {g : Option (Nat × Bool)}
/-- A sum, whatever it is: it wraps. -/
theorem q_addW {x y : Operand} {t t' : TypeId} {a b : Int} (hx : ev l x = some (.int .i64 a)) (hy : ev l y = some (.int .i64 b))
    (hg : wantedL ops l g = some true := by rfl) (hd : Nat.blt d N = true := by rfl) : QW P N ops S ⟨some d, .binOp .add t x y t', ty, pos, af, g⟩ l d (.int .i64 (IntKind.i64.wrap (a + b))) :=
  QW.mk (fun fr ha _ _ => by simp [execOp, ha.ev hx, ha.ev hy, eqGuard, binOp, Op.intArith]) hg hd
end
end Go.Fw
namespace Go.Proofs
open Go Go.Fw Go.RowKit Go.Rk
theorem lt_one_all {p : Nat → Bool} (h : p 0 = true) : ∀ j, j < 0 + 1 → p j = true := fun j hj => by
  have e : j = 0 := by omega
  rw [e]; exact h
theorem isLevelList_any {lo hi : Nat} {w : World} {v : Value} {t : List Int} (h : IS lo hi w v t) (hn : t.length ≤ 8) : Does Tryz.prog 105 [v] w fun r w' => r = .bool (isLev t) ∧ Still w w' := by
  obtain ⟨a, c, hv⟩ := h.shape
  rw [hv] at h ⊢
  refine Does.enter Tryz.func105 Tryz.ntmps105 rfl (by rfl) ?_
  repeat' (first|refine X.O ?_|refine X.A ?_|refine X.B ?_|refine X.C ?_|refine X.D ?_|refine X.E ?_|refine X.F ?_|refine X.G ?_|refine X.H ?_|refine X.I ?_|fail)
  refine WP.loop (fun (i : Nat) => [(0, .slice a t.length c), (5, .slice a t.length c), (6, .int .i64 (t.length : Nat)), (7, .int .i64 (i : Nat))])
    (fun i w2 => i ≤ t.length ∧ (∀ j, j < i → levAt t j = true) ∧ Still w w2)
    (fun i => t.length - i) 0 ⟨rfl, rfl, rfl, rfl, trivial⟩ ⟨by omega, fun j hj => absurd hj (by omega), Still.refl _⟩ ?_
  rintro i w2 ⟨hi1, hall, hs2⟩
  repeat' (first|refine X.O ?_|refine X.A ?_|refine X.B ?_|refine X.C ?_|refine X.D ?_|refine X.E ?_|refine X.F ?_|refine X.G ?_|refine X.H ?_|refine X.I ?_|fail)
  first|refine X.J (fun _ => ?_) (fun _ => ?_)|refine X.L (fun _ => ?_) (fun _ => ?_)|refine X.M (fun _ => ?_) (fun _ => ?_)|refine X.R (fun _ => ?_) (fun _ => ?_)|fail
  · rename_i hlt
    have hlt' : i < t.length := by omega
    repeat' (first|refine X.O ?_|refine X.A ?_|refine X.B ?_|refine X.C ?_|refine X.D ?_|refine X.E ?_|refine X.F ?_|refine X.G ?_|refine X.H ?_|refine X.I ?_|fail)
    refine WL.ixload (h.still RI.stable hs2) (List.getElem?_eq_getElem hlt') ?_
    rintro p1 _ rfl
    by_cases hi0 : i = 0
    · subst hi0
      have e := levAt_zero hlt'
      repeat' (first|refine X.O ?_|refine X.A ?_|refine X.B ?_|refine X.C ?_|refine X.D ?_|refine X.E ?_|refine X.F ?_|refine X.G ?_|refine X.H ?_|refine X.I ?_|fail)
      by_cases hz : t[0] = 0
      · rw [decide_eq_true hz] at e
        rw [hz]
        repeat' (first|refine X.O ?_|refine X.A ?_|refine X.B ?_|refine X.C ?_|refine X.D ?_|refine X.E ?_|refine X.F ?_|refine X.G ?_|refine X.H ?_|refine X.I ?_|fail)
        exact ⟨0 + 1, ⟨rfl, rfl, rfl, (by first|rfl|exact X.T (by omega)), trivial⟩, ⟨by omega, lt_one_all e, hs2⟩, by omega⟩
      · rw [decide_eq_false hz] at e
        refine WL.gsplitD (by rfl) (by rfl) (by rfl) (fun _ => ?_) (fun hb => absurd hb (fun hb => by first | exact hb hz | omega))
        repeat' (first|refine X.O ?_|refine X.A ?_|refine X.B ?_|refine X.C ?_|refine X.D ?_|refine X.E ?_|refine X.F ?_|refine X.G ?_|refine X.H ?_|refine X.I ?_|fail)
        refine ⟨_, ret1 rfl (by rfl), ?_⟩
        exact ⟨congrArg Value.bool (isLev_false hlt' e).symm, hs2⟩
    · have hlp : i - 1 < t.length := by omega
      have e := levAt_pos (t := t) (show 1 ≤ i by omega) hlt'
      have hbd : 0 ≤ t[i - 1] ∧ t[i - 1] ≤ 8 := by
        have : ∀ k, (hk : k < i) → 0 ≤ t[k]'(by omega) ∧ t[k]'(by omega) ≤ k := by
          intro k
          induction k with
          | zero => intro hk; have := hall 0 hk; rw [levAt_zero (by omega)] at this; have := of_decide_eq_true this; omega
          | succ k ih =>
            intro hk
            have h1 := hall (k + 1) hk
            rw [levAt_pos (by omega) (by omega)] at h1
            have h1 := of_decide_eq_true h1
            have h2 := ih (by omega)
            simp only [Nat.add_sub_cancel] at h1
            omega
        have := this (i - 1) (by omega)
        omega
      repeat' (first|refine X.O ?_|refine X.A ?_|refine X.B ?_|refine X.C ?_|refine X.D ?_|refine X.E ?_|refine X.F ?_|refine X.G ?_|refine X.H ?_|refine X.I ?_|fail)
      refine WL.gsplitD (by rfl) (by rfl) (by rfl) (fun hb => absurd hb (by omega)) (fun _ => ?_)
      repeat' (first|refine X.O ?_|refine X.A ?_|refine X.B ?_|refine X.C ?_|refine X.D ?_|refine X.E ?_|refine X.F ?_|refine X.G ?_|refine X.H ?_|refine X.I ?_|fail)
      refine WL.gsplitD (by rfl) (by rfl) (by rfl) (fun _ => ?_) (fun hb => absurd hb (by omega))
      repeat' (first|refine X.O ?_|refine X.A ?_|refine X.B ?_|refine X.C ?_|refine X.D ?_|refine X.E ?_|refine X.F ?_|refine X.G ?_|refine X.H ?_|refine X.I ?_|fail)
      refine WL.ixload (j := i - 1) (h.still RI.stable hs2) (List.getElem?_eq_getElem hlp) ?_
      rintro p2 _ rfl
      repeat' (first|refine X.O ?_|refine X.A ?_|refine X.B ?_|refine X.C ?_|refine X.D ?_|refine X.E ?_|refine X.F ?_|refine X.G ?_|refine X.H ?_|refine X.I ?_|fail)
      refine WL.call (inRange_any _ _ _ _) ?_
      rintro _ w3 ⟨rfl, hs3⟩
      rw [← e]
      repeat' (first|refine X.O ?_|refine X.A ?_|refine X.B ?_|refine X.C ?_|refine X.D ?_|refine X.E ?_|refine X.F ?_|refine X.G ?_|refine X.H ?_|refine X.I ?_|fail)
      first|refine X.J (fun _ => ?_) (fun _ => ?_)|refine X.L (fun _ => ?_) (fun _ => ?_)|refine X.M (fun _ => ?_) (fun _ => ?_)|refine X.R (fun _ => ?_) (fun _ => ?_)|fail
      · rename_i hf
        repeat' (first|refine X.O ?_|refine X.A ?_|refine X.B ?_|refine X.C ?_|refine X.D ?_|refine X.E ?_|refine X.F ?_|refine X.G ?_|refine X.H ?_|refine X.I ?_|fail)
        refine ⟨_, ret1 rfl (by rfl), ?_⟩
        exact ⟨congrArg Value.bool (isLev_false hlt' hf).symm, hs2.trans hs3⟩
      · rename_i ht
        repeat' (first|refine X.O ?_|refine X.A ?_|refine X.B ?_|refine X.C ?_|refine X.D ?_|refine X.E ?_|refine X.F ?_|refine X.G ?_|refine X.H ?_|refine X.I ?_|fail)
        refine ⟨i + 1, ⟨rfl, rfl, rfl, (by first|rfl|exact X.T (by omega)), trivial⟩, ⟨by omega, fun j hj => ?_, hs2.trans hs3⟩, by omega⟩
        by_cases hji : j = i
        · rw [hji]; exact ht
        · exact hall j (by omega)
  · rename_i hge
    have : i = t.length := by omega
    subst this
    repeat' (first|refine X.O ?_|refine X.A ?_|refine X.B ?_|refine X.C ?_|refine X.D ?_|refine X.E ?_|refine X.F ?_|refine X.G ?_|refine X.H ?_|refine X.I ?_|fail)
    refine ⟨_, ret1 rfl (by rfl), ?_⟩
    refine ⟨congrArg Value.bool ?_, hs2⟩
    by_cases h0 : 1 ≤ t.length
    · rw [isLev_true ⟨h0, hn⟩ hall, decide_eq_true (by omega)]
    · rw [isLev_len (by omega), decide_eq_false (by omega)]
theorem IsLevels_any {lo hi : Nat} {w : World} {v : Value} {t : List Int} (h : IS lo hi w v t) : Does Tryz.prog 78 [v] w fun r w' => r = .bool (isLev t) ∧ Still w w' := by
  obtain ⟨a, c, hv⟩ := h.shape
  rw [hv] at h ⊢
  refine Does.enter Tryz.func78 Tryz.ntmps78 rfl (by rfl) ?_
  repeat' (first|refine X.O ?_|refine X.A ?_|refine X.B ?_|refine X.C ?_|refine X.D ?_|refine X.E ?_|refine X.F ?_|refine X.G ?_|refine X.H ?_|refine X.I ?_|fail)
  by_cases h8 : t.length ≤ 8
  · refine WL.gsplitD (by rfl) (by rfl) (by rfl) (fun _ => ?_) (fun hb => absurd hb (by omega))
    repeat' (first|refine X.O ?_|refine X.A ?_|refine X.B ?_|refine X.C ?_|refine X.D ?_|refine X.E ?_|refine X.F ?_|refine X.G ?_|refine X.H ?_|refine X.I ?_|fail)
    refine WL.call (isLevelList_any h h8) ?_
    rintro _ w2 ⟨rfl, hs2⟩
    repeat' (first|refine X.O ?_|refine X.A ?_|refine X.B ?_|refine X.C ?_|refine X.D ?_|refine X.E ?_|refine X.F ?_|refine X.G ?_|refine X.H ?_|refine X.I ?_|fail)
    refine ⟨_, ret1 rfl (by rfl), ?_⟩
    exact ⟨rfl, hs2⟩
  · refine WL.gsplitD (by rfl) (by rfl) (by rfl) (fun hb => absurd hb (by omega)) (fun _ => ?_)
    repeat' (first|refine X.O ?_|refine X.A ?_|refine X.B ?_|refine X.C ?_|refine X.D ?_|refine X.E ?_|refine X.F ?_|refine X.G ?_|refine X.H ?_|refine X.I ?_|fail)
    refine ⟨_, ret1 rfl (by rfl), ?_⟩
    exact ⟨congrArg Value.bool (isLev_len (by omega)).symm, Still.refl _⟩
end Go.Proofs
/- The branches of a tree: the program's way and the reference's. -/
namespace Go.Fw
open Go Go.RowKit
/-- A row grows by one, in place or anew, and is put back. -/
theorem OwSSv.pushRow {e e2 lo hi i : Nat} {w w1 w2 : World} {v v' u : Value} {vs : List Value} {xss : List (List Int)} {ys zs : List Int} (h : OwSSv e e2 lo hi w v vs xss) (hu : vs[i]? = some u) (hx : xss[i]? = some ys)
    (o1 : Own lo e2 w1 v' (Ints zs)) (f1 : ∀ k, k < w.heap.size → u.ownBlock ≠ some k → w1.heap[k]? = w.heap[k]?) (z1 : w.heap.size ≤ w1.heap.size) (b1 : ∀ k, v'.ownBlock = some k → u.ownBlock = some k ∨ w.heap.size ≤ k)
    (o2 : Own lo e w2 v (vs.set i v')) (f2 : ∀ k, v.ownBlock ≠ some k → w2.heap[k]? = w1.heap[k]?) (z2 : w2.heap.size = w1.heap.size) : OwSSv e e2 lo w2.heap.size w2 v (vs.set i v') (xss.set i zs) := by
  have hi' : i < vs.length := (List.getElem?_eq_some_iff.1 hu).1
  have hxi : i < xss.length := (List.getElem?_eq_some_iff.1 hx).1
  have hru := h.rows i u ys hu hx
  have hhi := h.hi_le
  have own1 : Own lo e w1 v vs := h.own.keep fun k hk => f1 k (h.own.block k hk).2 (h.own.ne_block hru.own h.ne hk)
  refine ⟨o2, fun k hk => (o2.block k hk).2, Nat.le_refl _, by simpa using h.len, fun j u' xs' hu' hx' => ?_, fun j j' u1 u2 hne h1 h2 k hk => ?_, h.ne⟩
  · by_cases hij : i = j
    · subst hij
      rw [List.getElem?_set_self hi'] at hu'
      rw [List.getElem?_set_self hxi] at hx'
      simp only [Option.some.injEq] at hu' hx'
      subst hu' hx'
      exact ⟨o1.keep fun k hk => f2 k fun e' => own1.ne_block o1 h.ne e' hk, fun k hk => by rw [z2]; exact (o1.block k hk).2, Nat.le_refl _⟩
    · rw [List.getElem?_set_ne hij] at hx' hu'
      have hr := h.rows j u' xs' hu' hx'
      have hr1 : Own lo e2 w1 u' (Ints xs') := hr.own.keep fun k hk => f1 k (hr.own.block k hk).2 (fun e' => h.apart j i u' u (fun e => hij e.symm) hu' hu k hk e')
      exact ⟨hr1.keep fun k hk => f2 k fun e' => own1.ne_block hr1 h.ne e' hk, fun k hk => by have := hr.lt k hk; omega, Nat.le_refl _⟩
  · by_cases hij : i = j
    · subst hij
      rw [List.getElem?_set_self hi'] at h1
      rw [List.getElem?_set_ne hne] at h2
      simp only [Option.some.injEq] at h1
      subst h1
      obtain ⟨xs2, hx2⟩ : ∃ xs, xss[j']? = some xs := ⟨_, List.getElem?_eq_getElem (by rw [← h.len]; exact (List.getElem?_eq_some_iff.1 h2).1)⟩
      rcases b1 k hk with hb | hb
      · exact h.apart i j' u u2 hne hu h2 k hb
      · intro e'
        have := (h.rows j' u2 xs2 h2 hx2).lt k e'
        omega
    · rw [List.getElem?_set_ne hij] at h1
      by_cases hij' : i = j'
      · subst hij'
        rw [List.getElem?_set_self hi'] at h2
        simp only [Option.some.injEq] at h2
        subst h2
        obtain ⟨xs1, hx1⟩ : ∃ xs, xss[j]? = some xs := ⟨_, List.getElem?_eq_getElem (by rw [← h.len]; exact (List.getElem?_eq_some_iff.1 h1).1)⟩
        intro e'
        rcases b1 k e' with hb | hb
        · exact h.apart j i u1 u hne h1 hu k hk hb
        · have := (h.rows j u1 xs1 h1 hx1).lt k hk
          omega
      · rw [List.getElem?_set_ne hij'] at h2
        exact h.apart j j' u1 u2 hne h1 h2 k hk
/-- The empty row. -/
theorem OwI.nil (e : TypeId) (lo : Nat) (w : World) : OwI e lo w.heap.size w (.slice none 0 0) [] := ⟨Own.nil _ _ _, fun k hk => by simp [Value.ownBlock] at hk, Nat.le_refl _⟩
end Go.Fw
namespace Go.Proofs
open Go Go.Fw Go.RowKit Go.Rk
theorem branchesOf_any {lo hi : Nat} {w : World} {v : Value} {t : List Int} (h : IS lo hi w v t) (ht : Lv t) (hn : t.length ≤ 8) : Does Tryz.prog 81 [v] w fun r w' => NewSS 25 2 w r w' (branchesL t) := by
  obtain ⟨a, c, hv⟩ := h.shape
  subst hv
  have hz := h.hi_le
  have hp := ht.pos
  have hdl : (t.drop 1).length = t.length - 1 := List.length_drop
  refine Does.enter Tryz.func81 Tryz.ntmps81 rfl (by rfl) ?_
  repeat' (first|refine X.O ?_|refine X.A ?_|refine X.B ?_|refine X.C ?_|refine X.D ?_|refine X.E ?_|refine X.F ?_|refine X.G ?_|refine X.H ?_|refine X.I ?_|fail)
  refine WL.step (o_lit (us := []) (by rfl) (by rfl) rfl (by decide) one0 ?_)
  intro v1 w1 hown1 hbl1 hz1 _
  repeat' (first|refine X.O ?_|refine X.A ?_|refine X.B ?_|refine X.C ?_|refine X.D ?_|refine X.E ?_|refine X.F ?_|refine X.G ?_|refine X.H ?_|refine X.I ?_|fail)
  refine WL.step (o_sliceL (i := 1) (by rfl) (by rfl) hp ?_)
  have hd := (h.below RI.stable hbl1 hz).drop (i := 1) hp
  repeat' (first|refine X.O ?_|refine X.A ?_|refine X.B ?_|refine X.C ?_|refine X.D ?_|refine X.E ?_|refine X.F ?_|refine X.G ?_|refine X.H ?_|refine X.I ?_|fail)
  refine WP.loop (fun (s : Nat × Value) => [(3, s.2), (8, .slice (lowAddr a c 1) (t.length - 1) (c - 1)), (9, .int .i64 ((t.length - 1 : Nat) : Int)), (10, .int .i64 (s.1 : Nat))])
    (fun s w2 => s.1 ≤ t.length - 1 ∧ (∃ vs, OwSSv 25 2 w.heap.size w2.heap.size w2 s.2 vs (brI t (s.1 + 1))) ∧ Below w.heap.size w w2)
    (fun s => t.length - 1 - s.1) (0, v1) ⟨rfl, rfl, rfl, rfl, trivial⟩ ⟨by dsimp only; omega, ⟨[], by rw [brI_one]; exact OwSSv.none hown1 (by decide)⟩, hbl1⟩ ?_
  rintro ⟨i, vo⟩ w2 ⟨hi1, ⟨vs, oA⟩, hbl2⟩
  dsimp only at hi1 oA ⊢
  have hz2 := hbl2.size
  repeat' (first|refine X.O ?_|refine X.A ?_|refine X.B ?_|refine X.C ?_|refine X.D ?_|refine X.E ?_|refine X.F ?_|refine X.G ?_|refine X.H ?_|refine X.I ?_|fail)
  first|refine X.J (fun _ => ?_) (fun _ => ?_)|refine X.L (fun _ => ?_) (fun _ => ?_)|refine X.M (fun _ => ?_) (fun _ => ?_)|refine X.R (fun _ => ?_) (fun _ => ?_)|fail
  · rename_i hlt
    have hlt' : i + 1 < t.length := by omega
    have hok := brOk ht (i := i + 1) (by omega) (by omega)
    have hlev := ht.next (i := i + 1) (by omega) hlt'
    have hbd := ht.bd hlt'
    have hsucc := brI_succ (t := t) (i := i + 1) (by omega) hlt'
    obtain ⟨out, hout⟩ : ∃ out, brI t (i + 1) = out := ⟨_, rfl⟩
    rw [hout] at oA hok hsucc
    have hlen := hok.len
    have hvl : vs.length = out.length := oA.len
    have hget : (t.drop 1)[i]? = some t[i + 1] := by rw [List.getElem?_drop, Nat.add_comm, List.getElem?_eq_getElem hlt']
    repeat' (first|refine X.O ?_|refine X.A ?_|refine X.B ?_|refine X.C ?_|refine X.D ?_|refine X.E ?_|refine X.F ?_|refine X.G ?_|refine X.H ?_|refine X.I ?_|fail)
    refine WL.ixload (hd.same RI.stable (same_below hbl1 hbl2 hz) (by omega)) hget ?_
    rintro p1 _ rfl
    repeat' (first|refine X.O ?_|refine X.A ?_|refine X.B ?_|refine X.C ?_|refine X.D ?_|refine X.E ?_|refine X.F ?_|refine X.G ?_|refine X.H ?_|refine X.I ?_|fail)
    first|refine X.J (fun _ => ?_) (fun _ => ?_)|refine X.L (fun _ => ?_) (fun _ => ?_)|refine X.M (fun _ => ?_) (fun _ => ?_)|refine X.R (fun _ => ?_) (fun _ => ?_)|fail
    · rename_i hone
      obtain ⟨a2, c2, hvo, _⟩ := oA.own.shape
      repeat' (first|refine X.O ?_|refine X.A ?_|refine X.B ?_|refine X.C ?_|refine X.D ?_|refine X.E ?_|refine X.F ?_|refine X.G ?_|refine X.H ?_|refine X.I ?_|fail)
      refine o_append1 (u := .slice none 0 0) (fun _ => by rfl) (by rfl) oA.own rfl (by simp [hvl, maxLen]; omega) (by simp [hvl]; omega) (by omega) ?_
      intro p2 v3 w3 hown3 hbl3 hf3 hz3 _
      have o3 := oA.snoc (OwI.nil 2 w2.heap.size w2) (Nat.le_refl _) (by omega) hown3 (by omega) hf3
      obtain ⟨a3, c3, hv3, _⟩ := hown3.shape
      rw [List.length_append, List.length_singleton, hvl] at hv3
      subst hv3
      have hvi : out.length < (vs ++ [Value.slice none 0 0]).length := by simp; omega
      have hgv : (vs ++ [Value.slice none 0 0])[out.length]? = some (.slice none 0 0) := by rw [← hvl]; simp
      have hgx : (out ++ [[]])[out.length]? = some [] := by simp
      repeat' (first|refine X.O ?_|refine X.A ?_|refine X.B ?_|refine X.C ?_|refine X.D ?_|refine X.E ?_|refine X.F ?_|refine X.G ?_|refine X.H ?_|refine X.I ?_|fail)
      refine WL.ixload (R := fun _ _ _ u x => u = x) (xs := vs ++ [.slice none 0 0]) (j := out.length) (lo := w.heap.size) (hi := w3.heap.size) ?_ hgv ?_
      · exact o3.own.toSL rfl (Nat.le_refl _) o3.lt o3.hi_le (fun i u x hu hx => by rw [hu] at hx; simpa using hx)
      rintro p3 _ rfl
      repeat' (first|refine X.O ?_|refine X.A ?_|refine X.B ?_|refine X.C ?_|refine X.D ?_|refine X.E ?_|refine X.F ?_|refine X.G ?_|refine X.H ?_|refine X.I ?_|fail)
      refine o_append1K (u := .int .i64 _) (us := []) (fun _ => by rfl) (by rfl) (Own.nil w3 w.heap.size 2) rfl (by simp [maxLen]) (by simp) (by omega) ?_
      intro p4 v4 w4 hown4 hbl4 hf4 hz4 hk4
      obtain ⟨a4, c4, hv4, _⟩ := hown4.shape
      have own3' := o3.own.keep (w' := w4) fun k hk => hf4 k (o3.own.block k hk).2 (by simp [Value.ownBlock])
      refine WL.ixstore (j := out.length) own3' (by omega) ?_ (hu := by rw [hv4]; rfl)
      intro p5 w5 hown5 hbl5 hz5 hf5
      have oN := o3.pushRow (zs := [t[i + 1] - 1]) hgv hgx hown4 hf4 (by omega) hk4 hown5 hf5 hz5
      repeat' (first|refine X.O ?_|refine X.A ?_|refine X.B ?_|refine X.C ?_|refine X.D ?_|refine X.E ?_|refine X.F ?_|refine X.G ?_|refine X.H ?_|refine X.I ?_|fail)
      have hB : brI t (i + 1 + 1) = (out ++ [[]]).set out.length [t[i + 1] - 1] := by
        rw [hsucc]
        unfold pushB
        rw [if_pos hone]
        rfl
      rw [← hB] at oN
      exact ⟨(i + 1, .slice a3 (out.length + 1) c3), ⟨rfl, rfl, rfl, (by first|rfl|exact X.T (by omega)), trivial⟩, ⟨by dsimp only; omega, ⟨_, oN⟩, ((hbl2.trans hbl3).trans hbl4).trans hbl5⟩, by dsimp only; omega⟩
    · rename_i hmore
      have hi2 : 2 ≤ i + 1 := by
        apply Classical.byContradiction
        intro hno
        have hb := ht.bd (show i < t.length by omega)
        have hlev2 := hlev
        simp only [Nat.add_sub_cancel] at hlev2
        omega
      obtain ⟨init, b, hib, hlast⟩ := hok.last hi2
      have hpos : 1 ≤ out.length := by rw [hib]; simp
      obtain ⟨a3, c3, hv3, _⟩ := oA.own.shape
      rw [hvl] at hv3
      subst hv3
      have hvi : out.length - 1 < vs.length := by omega
      have hxi : out.length - 1 < out.length := by omega
      have hrow := oA.rows (out.length - 1) vs[out.length - 1] out[out.length - 1] (List.getElem?_eq_getElem hvi) (List.getElem?_eq_getElem hxi)
      have hrl := (hok.each out[out.length - 1] (List.getElem_mem hxi)).2
      obtain ⟨u, hu⟩ : ∃ u, vs[out.length - 1] = u := ⟨_, rfl⟩
      rw [hu] at hrow
      repeat' (first|refine X.O ?_|refine X.A ?_|refine X.B ?_|refine X.C ?_|refine X.D ?_|refine X.E ?_|refine X.F ?_|refine X.G ?_|refine X.H ?_|refine X.I ?_|fail)
      refine WL.ixload (R := fun _ _ _ u x => u = x) (xs := vs) (a := u) (j := out.length - 1) (lo := w.heap.size) (hi := w2.heap.size) ?_ (by rw [List.getElem?_eq_getElem hvi, hu]) ?_
      · exact oA.own.toSL rfl (Nat.le_refl _) oA.lt oA.hi_le (fun i u x hu hx => by rw [hu] at hx; simpa using hx)
      rintro p3 _ rfl
      repeat' (first|refine X.O ?_|refine X.A ?_|refine X.B ?_|refine X.C ?_|refine X.D ?_|refine X.E ?_|refine X.F ?_|refine X.G ?_|refine X.H ?_|refine X.I ?_|fail)
      refine o_append1K (u := .int .i64 _) (fun _ => by rfl) (by rfl) hrow.own rfl (by simp [Ints, maxLen]; omega) (by simp [Ints]; omega) (by omega) ?_
      intro p4 v4 w4 hown4 hbl4 hf4 hz4 hk4
      obtain ⟨a4, c4, hv4, _⟩ := hown4.shape
      have own3' := oA.own.keep (w' := w4) fun k hk => hf4 k (oA.own.block k hk).2 (oA.own.ne_block hrow.own oA.ne hk)
      refine WL.ixstore (j := out.length - 1) own3' hvi ?_ (hu := by rw [hv4]; rfl)
      intro p5 w5 hown5 hbl5 hz5 hf5
      have oN := oA.pushRow (zs := out[out.length - 1] ++ [t[i + 1] - 1]) (by rw [List.getElem?_eq_getElem hvi, hu]) (List.getElem?_eq_getElem hxi) (by rw [Ints_append]; exact hown4) hf4 (by omega) hk4 hown5 hf5 hz5
      repeat' (first|refine X.O ?_|refine X.A ?_|refine X.B ?_|refine X.C ?_|refine X.D ?_|refine X.E ?_|refine X.F ?_|refine X.G ?_|refine X.H ?_|refine X.I ?_|fail)
      have hB : brI t (i + 1 + 1) = out.set (out.length - 1) (out[out.length - 1] ++ [t[i + 1] - 1]) := by
        rw [hsucc]
        unfold pushB
        rw [if_neg hmore, List.getElem?_eq_getElem hxi]
        rfl
      rw [← hB] at oN
      exact ⟨(i + 1, .slice a3 out.length c3), ⟨rfl, rfl, rfl, (by first|rfl|exact X.T (by omega)), trivial⟩, ⟨by dsimp only; omega, ⟨_, oN⟩, (hbl2.trans hbl4).trans hbl5⟩, by dsimp only; omega⟩
  · rename_i hge
    have hie : i + 1 = t.length := by omega
    rw [hie] at oA
    repeat' (first|refine X.O ?_|refine X.A ?_|refine X.B ?_|refine X.C ?_|refine X.D ?_|refine X.E ?_|refine X.F ?_|refine X.G ?_|refine X.H ?_|refine X.I ?_|fail)
    refine ⟨_, ret1 rfl (by rfl), ?_⟩
    exact ⟨⟨vs, oA⟩, hbl2⟩
end Go.Proofs
/- The branches of a tree: the reference's way. -/
namespace Go.Fw
open Go Go.RowKit
theorem Own.raise {lo : Nat} {e : TypeId} {w : World} {v : Value} {us : List Value} (h : Own lo e w v us) {g : Nat} (hg : v.ownBlock = some g) : Own g e w v us := by
  obtain ⟨h1, ⟨rfl, h0⟩ | ⟨g', cap, cur, rfl, hb, rest⟩⟩ := h
  · simp [Value.ownBlock] at hg
  · simp [Value.ownBlock] at hg
    subst hg
    exact ⟨h1, .inr ⟨g', cap, cur, rfl, Nat.le_refl _, rest⟩⟩
end Go.Fw
namespace Go.Proofs
open Go Go.Fw Go.RowKit Go.Rk
theorem pushB_set (out : List (List Int)) (l : Int) (h : l = 1 ∨ out ≠ []) {o' : List (List Int)} (ho : o' = if l = 1 then out ++ [[]] else out) : pushB out l = o'.set (o'.length - 1) ((o'[o'.length - 1]?.getD []) ++ [l - 1]) := by
  unfold pushB
  by_cases h1 : l = 1
  · rw [if_pos h1] at ho ⊢
    subst ho
    simp
  · rw [if_neg h1] at ho ⊢
    subst ho
    rfl
end Go.Proofs
