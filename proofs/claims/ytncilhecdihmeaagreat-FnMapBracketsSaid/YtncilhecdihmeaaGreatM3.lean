/- What is at hand in a law's walk: lists that are read, and that nothing old has turned. -/
import Derived.Test.YtncilhecdihmeaaGreatM2
set_option maxRecDepth 8000
namespace Go.Proofs
open Go Go.Fw Go.RowKit Go.Rk
/-- A list of numbers that reads in a world. -/
def RD (w : World) (v : Value) (xs : List Int) : Prop := ∃ lo hi, IS lo hi w v xs
theorem RD.below {w w' : World} {v : Value} {xs : List Int} (h : RD w v xs) (hb : Below w.heap.size w w') : RD w' v xs := by
  obtain ⟨lo, hi, h⟩ := h
  exact ⟨lo, hi, h.below RI.stable hb h.hi_le⟩
/-- What stands under a number. -/
def lk : List (Nat × Value × List Int) → Nat → Option (Value × List Int)
  | [], _ => none
  | p :: l, k => bif Nat.beq p.1 k then some p.2 else lk l k
theorem lk_mem : ∀ {l : List (Nat × Value × List Int)} {k : Nat} {q : Value × List Int}, lk l k = some q → ∃ m, (m, q) ∈ l
  | p :: l, k, q, h => by
    unfold lk at h
    cases hb : Nat.beq p.1 k with
    | true => rw [hb] at h; simp only [cond_true, Option.some.injEq] at h; exact ⟨p.1, by rw [← h]; simp⟩
    | false => rw [hb] at h; obtain ⟨m, hm⟩ := lk_mem h; exact ⟨m, List.mem_cons_of_mem _ hm⟩
structure Have (w w1 : World) (l : List (Nat × Value × List Int)) : Prop where
  bel : Below w.heap.size w w1
  rd : ∀ p ∈ l, RD w1 p.2.1 p.2.2
section
variable {w w1 w2 : World} {l : List (Nat × Value × List Int)} {v : Value} {xs : List Int}
theorem Have.get (h : Have w w1 l) (i : Nat) (e : lk l i = some (v, xs)) : RD w1 v xs := by
  obtain ⟨m, hm⟩ := lk_mem e
  exact h.rd _ hm
theorem Have.next (h : Have w w1 l) (hb : Below w1.heap.size w1 w2) : Have w w2 l := ⟨h.bel.trans (Below.mono hb h.bel.size), fun p hp => (h.rd p hp).below hb⟩
theorem Have.add (h : Have w w1 l) (k : Nat) (hr : RD w1 v xs) : Have w w1 ((k, v, xs) :: l) := ⟨h.bel, fun p hp => by
  rcases List.mem_cons.1 hp with rfl | hp
  · exact hr
  · exact h.rd p hp⟩
theorem NewI.rd (h : NewI w1 v w2 xs) : RD w2 v xs := ⟨_, _, h.1.toIS (Nat.zero_le _)⟩
theorem Have.new (h : Have w w1 l) (k : Nat) (hn : NewI w1 v w2 xs) : Have w w2 ((k, v, xs) :: l) := (h.next hn.2).add k hn.rd
theorem Have.still (h : Have w w1 l) (hs : Still w1 w2) : Have w w2 l := h.next (hs.below _)
theorem Have.chg (h : Have w w1 l) (hc : Chg 0 0 w1 w2) : Have w w2 l := h.next (hc.below (Nat.le_refl _) (Or.inr (Nat.le_refl _)))
end
/-- The same beside a dice. -/
structure HaveD (sb : Nat) (w w1 : World) (l : List (Nat × Value × List Int)) : Prop where
  dice : Dice sb w1
  low : w.heap.size ≤ sb
  bel : Below w.heap.size w w1
  rd : ∀ p ∈ l, ∃ lo hi, (hi ≤ sb ∨ sb < lo) ∧ IS lo hi w1 p.2.1 p.2.2
section
variable {sb : Nat} {w w1 w2 : World} {l : List (Nat × Value × List Int)} {v : Value} {xs : List Int}
theorem HaveD.lt (h : HaveD sb w w1 l) : sb < w1.heap.size := h.dice.lt
theorem Have.roll (h : Have w w1 l) (hd : Dice w1.heap.size w2) (hc : Chg 0 0 w1 w2) : HaveD w1.heap.size w w2 l :=
  ⟨hd, h.bel.size, (h.chg hc).bel, fun p hp => by
    obtain ⟨lo, hi, hr⟩ := h.rd p hp
    exact ⟨lo, hi, Or.inl hr.hi_le, RI.chg hr hc (Or.inr (Nat.zero_le _))⟩⟩
theorem HaveD.get (h : HaveD sb w w1 l) (i : Nat) (e : lk l i = some (v, xs)) : RD w1 v xs := by
  obtain ⟨m, hm⟩ := lk_mem e
  obtain ⟨lo, hi, _, hr⟩ := h.rd _ hm
  exact ⟨lo, hi, hr⟩
theorem HaveD.next (h : HaveD sb w w1 l) (hb : Below w1.heap.size w1 w2) : HaveD sb w w2 l :=
  ⟨h.dice.below hb h.lt, h.low, h.bel.trans (Below.mono hb h.bel.size), fun p hp => by
    obtain ⟨lo, hi, hd, hr⟩ := h.rd p hp
    exact ⟨lo, hi, hd, hr.below RI.stable hb hr.hi_le⟩⟩
theorem HaveD.new (h : HaveD sb w w1 l) (k : Nat) (hn : NewI w1 v w2 xs) : HaveD sb w w2 ((k, v, xs) :: l) :=
  have h2 := h.next hn.2
  ⟨h2.dice, h2.low, h2.bel, fun p hp => by
    rcases List.mem_cons.1 hp with rfl | hp
    · exact ⟨_, _, Or.inr h.lt, hn.1.toIS (Nat.le_refl _)⟩
    · exact h2.rd p hp⟩
theorem HaveD.still (h : HaveD sb w w1 l) (hs : Still w1 w2) : HaveD sb w w2 l := h.next (hs.below _)
theorem HaveD.chg (h : HaveD sb w w1 l) (hc : Chg 0 0 w1 w2) : HaveD sb w w2 l := h.next (hc.below (Nat.le_refl _) (Or.inr (Nat.le_refl _)))
theorem HaveD.rolled (h : HaveD sb w w1 l) (hd : Rolled sb w1 w2) : HaveD sb w w2 l :=
  ⟨hd.src, h.low, h.bel.trans (hd.chg.below h.bel.size (Or.inl h.low)), fun p hp => by
    obtain ⟨lo, hi, hx, hr⟩ := h.rd p hp
    exact ⟨lo, hi, hx, RI.chg hr hd.chg (by omega)⟩⟩
theorem HaveD.map9 (h : HaveD sb w w1 l) (hd : Rolled sb w1 w2) (k : Nat) (ho : Own w1.heap.size 2 w2 v (Ints xs)) : HaveD sb w w2 ((k, v, xs) :: l) :=
  have h2 := h.rolled hd
  ⟨h2.dice, h2.low, h2.bel, fun p hp => by
    rcases List.mem_cons.1 hp with rfl | hp
    · exact ⟨_, _, Or.inr h.lt, ho.toIS (Nat.le_refl _)⟩
    · exact h2.rd p hp⟩
theorem HaveD.have (h : HaveD sb w w1 l) : Have w w1 l := ⟨h.bel, fun p hp => by
  obtain ⟨lo, hi, _, hr⟩ := h.rd p hp
  exact ⟨lo, hi, hr⟩⟩
end
theorem act9_rd {w : World} {vb vx : Value} {b x y : List Int} (hB : RD w vb b) (hX : RD w vx x) (e : actOn b x = (y, 0)) : Does Tryz.prog 66 [vb, vx] w fun r w' => NewI w r w' y := by
  obtain ⟨_, _, hB⟩ := hB; obtain ⟨_, _, hX⟩ := hX; exact act9_any hB hX e
theorem bracket9_rd {w : World} {vb vx : Value} {b x y : List Int} (hB : RD w vb b) (hX : RD w vx x) (e : bracketOf b x = (y, 0)) : Does Tryz.prog 65 [vb, vx] w fun r w' => NewI w r w' y := by
  obtain ⟨_, _, hB⟩ := hB; obtain ⟨_, _, hX⟩ := hX; exact bracket9_any hB hX e
theorem plus9_rd {w : World} {va vb : Value} {a b : List Int} {k k' : Int} (hA : RD w va a) (hB : RD w vb b) (ha : isMap a = true) (hb : isMap b = true) (hk : k' = nm k) : Does Tryz.prog 64 [va, vb, .int .i64 k] w fun r w' => NewI w r w' (plusL a (scaledL b k') 1) := by
  obtain ⟨_, _, hA⟩ := hA; obtain ⟨_, _, hB⟩ := hB; exact plus9_any hA hB ha hb hk
theorem whole9_rd {w : World} {v : Value} {xs : List Int} (h : RD w v xs) (hl : xs.length = 38) : Does Tryz.prog 56 [v] w fun r w' => r = .bool true ∧ w = w' := by
  obtain ⟨_, _, h⟩ := h
  have := whole9_any h
  rwa [decide_eq_true hl] at this
theorem likeInts_rd {w : World} {v v' : Value} {xs ys : List Int} (h : RD w v xs) (h' : RD w v' ys) (e : xs = ys) : Does Tryz.prog 26 [v, v'] w fun r w' => r = .bool true ∧ Still w w' := by
  obtain ⟨_, _, h⟩ := h; obtain ⟨_, _, h'⟩ := h'
  have := likeInts_any h h'
  rwa [decide_eq_true e] at this
end Go.Proofs
namespace Go.Rk
open Go.Fw Go.Proofs
/-- A map without a first value. -/
structure Inf (b : List Int) : Prop where
  map : isMap b = true
  first : b.getD 0 0 = 0
theorem getD_of {a : List Int} {i : Nat} (h : i < a.length) : a.getD i 0 = a[i] := by rw [List.getD_eq_getElem?_getD, List.getElem?_eq_getElem h]; rfl
theorem plusL_at {x y : List Int} {k : Int} {i : Nat} (hx : x.length = 38) (hy : y.length = 38) (hi : i < 38) : (plusL x y k).getD i 0 = nm (x.getD i 0 + nm k * y.getD i 0) := by
  rw [getD_of (by rw [plusL_38 hx hy]; exact hi), plusL_get (by rw [plusL_38 hx hy]; exact hi) (by omega) (by omega), getD_of (by omega), getD_of (by omega)]
theorem mapOf {a : List Int} (h : a.length = 38) (h2 : allN a = true) : isMap a = true := by unfold isMap; rw [Bool.and_eq_true, decide_eq_true_eq]; exact ⟨h, h2⟩
theorem plusL_map {a b : List Int} {k : Int} (ha : a.length = 38) (hb : b.length = 38) : isMap (plusL a b k) = true := mapOf (plusL_38 ha hb) (plusL_all _ _ _)
theorem bracketL_38 (b c : List Int) : (bracketL b c).length = 38 := plusL_38 (actR_len _ _) (actR_len _ _)
theorem bracketL_map (b c : List Int) : isMap (bracketL b c) = true := mapOf (bracketL_38 b c) (plusL_all _ _ _)
theorem actR_first (b x : List Int) : (actR modR cutLit b x).getD 0 0 = 0 := rfl
theorem bracketL_first (b c : List Int) : (bracketL b c).getD 0 0 = 0 := by
  unfold bracketL
  rw [plusL_at (actR_len _ _) (actR_len _ _) (by omega), actR_first, actR_first, Int.mul_zero]
  exact show nm (0 + 0) = 0 from by kernel_rfl
theorem Inf.len {b : List Int} (h : Inf b) : b.length = 38 := isMap_38 h.map
theorem Inf.br (b c : List Int) : Inf (bracketL b c) := ⟨bracketL_map b c, bracketL_first b c⟩
theorem Inf.act (b c : List Int) : Inf (actR modR cutLit b c) := ⟨mapOf (actR_len _ _) (actR_all _ _), rfl⟩
theorem Inf.two {b c : List Int} (hb : Inf b) (hc : Inf c) : infTwo b c = 0 := by
  unfold infTwo
  rw [if_pos ⟨hb.map, hc.map⟩, if_neg (by rw [hb.first, hc.first]; simp)]
theorem bracket_ok {b c : List Int} (hb : Inf b) (hc : Inf c) : bracketOf b c = (bracketL b c, 0) := by unfold bracketOf; rw [if_pos (hb.two hc)]
theorem act_ok {b c : List Int} (hb : Inf b) (hc : isMap c = true) : actOn b c = (actR modR cutLit b c, 0) := by
  have h : infCode [c, b] b = 0 := by
    unfold infCode
    rw [if_pos (by simp [hc, hb.map]), if_neg (by rw [hb.first]; simp)]
  unfold actOn; rw [if_pos h]
theorem inf_of {b c : List Int} (h : infTwo b c = 0) : Inf b ∧ Inf c := by
  obtain ⟨⟨h1, h2⟩, h3, h4⟩ := infTwo_zero h
  exact ⟨⟨h1, h3⟩, ⟨h2, h4⟩⟩
theorem scaledL_length' {b : List Int} {k : Int} (h : b.length = 38) : (scaledL b k).length = 38 := by rw [scaledL_length, h]
end Go.Rk
