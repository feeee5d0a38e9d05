/- The built-in clear of a slice's tail, the head of an owned slice, and slices.DeleteFunc over whole numbers. -/
import Derived.Test.YthepgmajeljdhaaGreatA1
import Derived.Test.YthepgmajeljdhaaGreatHB
import Derived.Test.YthepgmajeljdhaaGreatA5
import Derived.Test.YthepgmajeljdhaaGreatPlB
namespace Go.Fw
open Go Go.RowKit
section
variable {P : Program} {N : Nat} {Q : Exit → Fr → World → Prop} {S : World → Prop} {l : Fr} {w : World} {ops : Array Oper} {K : Fr → World → Prop}
variable {d : Nat} {ty : TypeId} {pos : String} {af : Array Edge} {g : Option (Nat × Bool)}
/-- An operation whose value goes nowhere. -/
theorem OpW.valN {op : Op} {w' : World} {v : Value} (hr : ∀ a, Rep N a l → (execOp a.eval ⟨none, op, ty, pos, af, g⟩).run P w = .ok (.value v) w')
    (k : K l w') (hg : wantedL ops l g = some true := by rfl) : OpW P N ops Q ⟨none, op, ty, pos, af, g⟩ l w K := fun a ha K' hK => by
  rw [wantedL_sound (o := ⟨none, op, ty, pos, af, g⟩) ha hg]
  refine .inl ?_
  unfold Oper.wp
  rw [hr a ha]
  exact hK _ _ _ (ha.put_none v) k
theorem clear_own {t e : TypeId} {z : Value} {bytes : Nat} (h : SliceTy P t e z bytes) {lo n c i : Nat} {a : Option Addr} {us : List Value} {e' : TypeId} (hown : Own lo e' w (.slice a n c) us) (hi : i ≤ n) (h1 : z.oneCell' = true) :
    ∃ w1, (Builtin.clear_ #[t] ty #[.slice (lowAddr a c i) (n - i) (c - i)]).run P w = .ok (.tuple #[]) w1 ∧
      Own lo e' w1 (.slice a n c) (us.take i ++ List.replicate (n - i) z) ∧ Below lo w w1 ∧ w1.heap.size = w.heap.size ∧ ∀ j, (Value.slice a n c).ownBlock ≠ some j → w1.heap[j]? = w.heap[j]? := by
  have hul : us.length = n := by obtain ⟨_, _, hv, _⟩ := hown.shape; simp only [Value.slice.injEq] at hv; omega
  by_cases hin : i = n
  · subst hin
    refine ⟨w, ?_, by rw [Nat.sub_self, List.replicate_zero, List.append_nil, List.take_of_length_le (by omega)]; exact hown, Below.refl _ _, rfl, fun _ _ => rfl⟩
    rw [Nat.sub_self]
    cases lowAddr a c i <;> simp [Builtin.clear_, run_underlying h.und]
  · have hown0 := hown
    obtain ⟨hxs, ⟨he, _⟩ | ⟨g', cap, cur, he, hbg, hg, hnc, hcm, hcs, htake⟩⟩ := hown
    · simp only [Value.slice.injEq] at he
      omega
    · simp only [Value.slice.injEq] at he
      obtain ⟨rfl, hn', rfl⟩ := he
      obtain ⟨m, hm⟩ : ∃ m, n - i = m + 1 := ⟨n - i - 1, by omega⟩
      have hla : lowAddr (some ⟨g', 0, none⟩) c i = some ⟨g', i, none⟩ := by
        unfold lowAddr
        rw [if_neg (by omega)]
        simp [Addr.add]
        try (intro h0; omega)
      have hzc : (Builtin.zeroCells z.cells (n - i)).toList = List.replicate (n - i) z := by
        rw [h.one]
        simp [Builtin.zeroCells]
        apply List.ext_getElem
        · simp
        · intro i h1 h2
          simp [Nat.mod_one]
      have hst := run_storeCells_at (P := P) g' i e' (List.replicate (n - i) z) 0 cur w hg (by simp; omega) (fun v hv => by rw [List.eq_of_mem_replicate hv]; exact h1)
      simp only [Nat.add_zero, List.length_replicate] at hst
      have hzr := h.zeroRun (w := w)
      refine ⟨w.setRow g' (List.take i cur.toList ++ List.replicate (n - i) z ++ List.drop (i + (n - i)) cur.toList).toArray, ?_, ⟨?_, .inr ⟨g', c, (List.take i cur.toList ++ List.replicate (n - i) z ++ List.drop (i + (n - i)) cur.toList).toArray, by simp; omega, hbg, setRow_heap w g' cur _ e' _ hg, ?_, hcm, ?_, ?_⟩⟩, ⟨by simp, by simp, by simp, by simp, fun k hk => setRow_other w g' k _ (by omega)⟩, by simp, fun j hj => setRow_other w g' j _ (fun e => hj (by simp [Value.ownBlock, e]))⟩
      · rw [hla, hm]
        rw [hm] at hzc hst
        simp [Builtin.clear_, run_underlying h.und, hzr, hzc, hst]
      · simp
      · simp; omega
      · simp; omega
      · have e1 : (us.take i ++ List.replicate (n - i) z).length = n := by simp; omega
        rw [e1]
        have e2 : us = cur.toList.take n := by rw [← hul]; rw [Nat.mul_one] at htake; exact htake.symm
        clear htake
        simp only [Nat.mul_one]
        rw [show (us.take i) = cur.toList.take i from by rw [e2, List.take_take, Nat.min_eq_left hi]]
        have hcl : cur.toList.length = c := by simp; omega
        have e3 : (cur.toList.take i ++ List.replicate (n - i) z).length = n := by simp; omega
        rw [List.take_append_of_le_length (by omega), List.take_of_length_le (by omega)]
/-- clear of the tail of a slice that the call owns. -/
theorem o_clear {t e : TypeId} {z : Value} {bytes : Nat} [h : SliceTy P t e z bytes] {lo n c i : Nat} {x : Operand} {a : Option Addr} {us : List Value} {e' : TypeId} (hx : ev l x = some (.slice (lowAddr a c i) (n - i) (c - i))) (hown : Own lo e' w (.slice a n c) us) (hi : i ≤ n) (h1 : z.oneCell' = true)
    (k : ∀ w1, Own lo e' w1 (.slice a n c) (us.take i ++ List.replicate (n - i) z) → Below lo w w1 → w1.heap.size = w.heap.size → (∀ j, (Value.slice a n c).ownBlock ≠ some j → w1.heap[j]? = w.heap[j]?) → K l w1)
    (hg : wantedL ops l g = some true := by rfl) : OpW P N ops Q ⟨none, .call { callee := .builtin .clear, args := #[x], argTypes := #[t] }, ty, pos, af, g⟩ l w K := by
  obtain ⟨w1, hr, h2, h3, h4, h5⟩ := clear_own (ty := ty) h hown hi h1
  refine OpW.valN (w' := w1) (v := .tuple #[]) (fun fr ha => ?_) (k w1 h2 h3 h4 h5) hg
  simp [execOp, resolve, invoke, builtin, ha.ev hx, hr]
end
end Go.Fw
/- slices.DeleteFunc over whole numbers, on a slice that the call owns. -/
namespace Go.Fw
open Go Go.RowKit
/-- The head of an owned slice is owned. -/
theorem Own.take {lo n c : Nat} {e : TypeId} {w : World} {a : Option Addr} {us : List Value} (h : Own lo e w (.slice a n c) us) {i : Nat} (hi : i ≤ n) : Own lo e w (.slice a i c) (us.take i) := by
  have hul : us.length = n := by obtain ⟨_, _, hv, _⟩ := h.shape; simp only [Value.slice.injEq] at hv; omega
  have hl : (us.take i).length = i := by rw [List.length_take]; omega
  unfold Own at h ⊢
  rw [hl]
  obtain ⟨_, ⟨he, h0⟩ | ⟨g', cap, cur, he, hbg, hg, hnc, hcm, hcs, htake⟩⟩ := h
  · simp only [Value.slice.injEq] at he
    obtain ⟨rfl, rfl, rfl⟩ := he
    obtain rfl : i = 0 := by omega
    exact ⟨by simp, .inl ⟨rfl, rfl⟩⟩
  · simp only [Value.slice.injEq] at he
    obtain ⟨rfl, hn', rfl⟩ := he
    refine ⟨by omega, .inr ⟨g', c, cur, rfl, hbg, hg, by omega, hcm, hcs, ?_⟩⟩
    rw [Nat.mul_one] at htake ⊢
    rw [← htake, List.take_take]
    congr 1
    omega
end Go.Fw
namespace Go.Rk
open Go.Fw Go.Proofs
theorem idxFrom_spec (p : Int → Bool) (xs : List Int) (s : Nat) : (idxFrom p (s : Int) xs = -1 ∧ (xs.filter fun x => !p x) = xs) ∨
    ∃ k, ∃ h : k < xs.length, idxFrom p (s : Int) xs = ((s + k : Nat) : Int) ∧ p xs[k] = true ∧ ((xs.take (k + 1)).filter fun x => !p x) = xs.take k := by
  induction xs generalizing s with
  | nil => exact Or.inl ⟨rfl, rfl⟩
  | cons x xs ih =>
    unfold idxFrom
    cases hx : p x with
    | true =>
      refine Or.inr ⟨0, by simp, by simp, by simpa using hx, by simp [hx]⟩
    | false =>
      have e : ((s : Nat) : Int) + 1 = ((s + 1 : Nat) : Int) := by omega
      rw [if_neg (by decide), e]
      rcases ih (s + 1) with ⟨h1, h2⟩ | ⟨k, hk, h1, h2, h3⟩
      · exact Or.inl ⟨h1, by rw [List.filter_cons, hx]; simpa using h2⟩
      · refine Or.inr ⟨k + 1, by simp; omega, by rw [h1]; omega, by simpa using h2, ?_⟩
        rw [List.take_succ_cons, List.filter_cons, hx]
        simpa using h3
theorem del_keep {p : Int → Bool} {xs ys : List Int} {i j : Nat} (hj : j < xs.length) (hl : ys.length = xs.length) (hi : ys.take i = (xs.take j).filter fun x => !p x) (hij : i ≤ j) (hd : ys.drop j = xs.drop j) (hp : p xs[j] = false) :
    (ys.set i xs[j]).take (i + 1) = ((xs.take (j + 1)).filter fun x => !p x) ∧ (ys.set i xs[j]).drop (j + 1) = xs.drop (j + 1) := by
  constructor
  · rw [List.take_succ_eq_append_getElem hj, List.filter_append, ← hi]
    have e : (List.filter (fun x => !p x) [xs[j]]) = [xs[j]] := by simp [hp]
    rw [e, List.take_set, List.take_succ_eq_append_getElem (show i < ys.length by omega), List.set_append]
    have hlen : (ys.take i).length = i := by rw [List.length_take]; omega
    rw [if_neg (by omega), hlen, Nat.sub_self]
    rfl
  · rw [List.drop_set, if_pos (by omega)]
    have := congrArg (List.drop 1) hd
    rwa [List.drop_drop, List.drop_drop] at this
theorem del_skip {p : Int → Bool} {xs ys : List Int} {i j : Nat} (hj : j < xs.length) (hi : ys.take i = (xs.take j).filter fun x => !p x) (hd : ys.drop j = xs.drop j) (hp : p xs[j] = true) :
    ys.take i = ((xs.take (j + 1)).filter fun x => !p x) ∧ ys.drop (j + 1) = xs.drop (j + 1) := by
  constructor
  · rw [List.take_succ_eq_append_getElem hj, List.filter_append, ← hi]
    simp [hp]
  · have := congrArg (List.drop 1) hd
    rwa [List.drop_drop, List.drop_drop] at this
end Go.Rk
namespace Go.Proofs
open Go Go.Fw Go.RowKit Go.Rk
theorem DeleteFunc_any {lo : Nat} {w : World} {v : Value} {xs : List Int} {f : FuncId} [FuncTy Tryz.prog f] {cap : List Value} (p : Int → Bool) (h : Own lo 2 w v (Ints xs))
    (hp : ∀ x ∈ xs, ∀ w', w'.heap.size = w.heap.size → (∀ k, v.ownBlock ≠ some k → w'.heap[k]? = w.heap[k]?) → Does Tryz.prog f ([.int .i64 x] ++ cap) w' fun r w'' => r = .bool (p x) ∧ Still w' w'') :
    Does Tryz.prog 78 [v, .func (.func f) #[] cap.toArray] w fun r w' => Own lo 2 w' r (Ints (xs.filter fun x => !p x)) ∧ Below lo w w' ∧ w'.heap.size = w.heap.size ∧ (∀ k, v.ownBlock ≠ some k → w'.heap[k]? = w.heap[k]?) ∧ r.ownBlock = v.ownBlock := by
  obtain ⟨a, c, hv, _⟩ := h.shape
  rw [Ints_length] at hv
  subst hv
  have hIS := Own.is h
  have hm := hIS.len
  unfold maxLen at hm
  refine Does.enter Tryz.func78 Tryz.ntmps78 rfl (by rfl) ?_
  repeat' (first|refine X.O ?_|refine X.A ?_|refine X.B ?_|refine X.C ?_|refine X.D ?_|refine X.E ?_|refine X.F ?_|refine X.G ?_|refine X.H ?_|refine X.I ?_|fail)
  refine WL.call (IndexFunc_int p hIS (fun x hx w' hs => hp x hx w' hs.size (fun k _ => by rw [hs.heap]))) ?_
  rintro _ w1 ⟨rfl, hs1⟩
  have hown1 := h.still hs1
  rcases idxFrom_spec p xs 0 with ⟨h1, h2⟩ | ⟨k0, hk0, h1, h2, h3⟩
  · have h1' : idxFrom p 0 xs = -1 := h1
    rw [h1']
    repeat' (first|refine X.O ?_|refine X.A ?_|refine X.B ?_|refine X.C ?_|refine X.D ?_|refine X.E ?_|refine X.F ?_|refine X.G ?_|refine X.H ?_|refine X.I ?_|fail)
    refine ⟨_, ret1 rfl (by rfl), ?_⟩
    rw [h2]
    exact ⟨hown1, hs1.below _, hs1.size, fun k _ => by rw [hs1.heap], rfl⟩
  · have h1' : idxFrom p 0 xs = ((k0 : Nat) : Int) := by rw [Nat.zero_add] at h1; exact h1
    rw [h1']
    repeat' (first|refine X.O ?_|refine X.A ?_|refine X.B ?_|refine X.C ?_|refine X.D ?_|refine X.E ?_|refine X.F ?_|refine X.G ?_|refine X.H ?_|refine X.I ?_|fail)
    · refine WP.loop (fun (s : Nat × Nat × List Int) => [(0, .slice a xs.length c), (1, .func (.func f) #[] cap.toArray), (5, .int .i64 (s.1 : Nat)), (6, .int .i64 (s.2.1 : Nat))])
        (fun s w2 => s.2.1 ≤ xs.length ∧ s.1 ≤ s.2.1 ∧ s.2.2.length = xs.length ∧ s.2.2.take s.1 = ((xs.take s.2.1).filter fun x => !p x) ∧ s.2.2.drop s.2.1 = xs.drop s.2.1 ∧ Own lo 2 w2 (.slice a xs.length c) (Ints s.2.2) ∧ Below lo w1 w2 ∧ w2.heap.size = w1.heap.size ∧ ∀ k, (Value.slice a xs.length c).ownBlock ≠ some k → w2.heap[k]? = w1.heap[k]?)
        (fun s => xs.length - s.2.1) (k0, k0 + 1, xs) ⟨rfl, rfl, rfl, (by first|rfl|exact X.T (by omega)), trivial⟩ ⟨by dsimp only; omega, by dsimp only; omega, rfl, h3.symm, rfl, hown1, Below.refl _ _, rfl, fun _ _ => rfl⟩ ?_
      rintro ⟨i, j, ys⟩ w2 ⟨hj1, hij, hl, hi, hd, hown2, hbl2, hz2, hk2⟩
      dsimp only at hj1 hij hl hi hd hown2 ⊢
      repeat' (first|refine X.O ?_|refine X.A ?_|refine X.B ?_|refine X.C ?_|refine X.D ?_|refine X.E ?_|refine X.F ?_|refine X.G ?_|refine X.H ?_|refine X.I ?_|fail)
      first|refine X.J (fun _ => ?_) (fun _ => ?_)|refine X.L (fun _ => ?_) (fun _ => ?_)|refine X.M (fun _ => ?_) (fun _ => ?_)|refine X.R (fun _ => ?_) (fun _ => ?_)|fail
      · rename_i hlt
        have hlj : j < xs.length := by omega
        have hyj : ys[j]'(by omega) = xs[j] := by
          have := congrArg (·[0]?) hd
          simp only [List.getElem?_drop, Nat.add_zero] at this
          rw [List.getElem?_eq_getElem (by omega), List.getElem?_eq_getElem hlj] at this
          exact Option.some.inj this
        repeat' (first|refine X.O ?_|refine X.A ?_|refine X.B ?_|refine X.C ?_|refine X.D ?_|refine X.E ?_|refine X.F ?_|refine X.G ?_|refine X.H ?_|refine X.I ?_|fail)
        refine WL.ixload (Own.is hown2) (List.getElem?_eq_getElem (show j < ys.length by omega)) ?_
        rintro p1 _ rfl
        rw [hyj]
        repeat' (first|refine X.O ?_|refine X.A ?_|refine X.B ?_|refine X.C ?_|refine X.D ?_|refine X.E ?_|refine X.F ?_|refine X.G ?_|refine X.H ?_|refine X.I ?_|fail)
        refine WL.step (o_callV (f := f) (fst := []) (cap := cap) (by rfl) (hp _ (List.getElem_mem hlj) w2 (by rw [hz2, hs1.size]) (fun k hk => by rw [hk2 k hk, hs1.heap])) ?_)
        rintro _ w3 ⟨rfl, hs3⟩
        have hown3 := hown2.still hs3
        repeat' (first|refine X.O ?_|refine X.A ?_|refine X.B ?_|refine X.C ?_|refine X.D ?_|refine X.E ?_|refine X.F ?_|refine X.G ?_|refine X.H ?_|refine X.I ?_|fail)
        first|refine X.J (fun _ => ?_) (fun _ => ?_)|refine X.L (fun _ => ?_) (fun _ => ?_)|refine X.M (fun _ => ?_) (fun _ => ?_)|refine X.R (fun _ => ?_) (fun _ => ?_)|fail
        · rename_i hpx
          obtain ⟨e1, e2⟩ := del_keep hlj hl hi hij hd hpx
          repeat' (first|refine X.O ?_|refine X.A ?_|refine X.B ?_|refine X.C ?_|refine X.D ?_|refine X.E ?_|refine X.F ?_|refine X.G ?_|refine X.H ?_|refine X.I ?_|fail)
          refine WL.ixstore (j := i) hown3 (by rw [Ints_length]; omega) ?_
          intro p2 w4 hown4 hbl4 hz4 hk4
          rw [Ints_set] at hown4
          repeat' (first|refine X.O ?_|refine X.A ?_|refine X.B ?_|refine X.C ?_|refine X.D ?_|refine X.E ?_|refine X.F ?_|refine X.G ?_|refine X.H ?_|refine X.I ?_|fail)
          exact ⟨(i + 1, j + 1, ys.set i xs[j]), ⟨rfl, rfl, (by first|rfl|exact X.T (by omega)), (by first|rfl|exact X.T (by omega)), trivial⟩, ⟨by dsimp only; omega, by dsimp only; omega, by rw [List.length_set]; exact hl, e1, e2, hown4, (hbl2.trans (hs3.below _)).trans hbl4, by rw [hz4, hs3.size, hz2], fun k hk => by rw [hk4 k hk, hs3.heap, hk2 k hk]⟩, by dsimp only; omega⟩
        · rename_i hpx
          obtain ⟨e1, e2⟩ := del_skip hlj hi hd hpx
          repeat' (first|refine X.O ?_|refine X.A ?_|refine X.B ?_|refine X.C ?_|refine X.D ?_|refine X.E ?_|refine X.F ?_|refine X.G ?_|refine X.H ?_|refine X.I ?_|fail)
          exact ⟨(i, j + 1, ys), ⟨rfl, rfl, rfl, (by first|rfl|exact X.T (by omega)), trivial⟩, ⟨by dsimp only; omega, by dsimp only; omega, hl, e1, e2, hown3, hbl2.trans (hs3.below _), by rw [hs3.size, hz2], fun k hk => by rw [hs3.heap, hk2 k hk]⟩, by dsimp only; omega⟩
      · rename_i hge
        have hje : j = xs.length := by omega
        rw [hje, List.take_length] at hi
        repeat' (first|refine X.O ?_|refine X.A ?_|refine X.B ?_|refine X.C ?_|refine X.D ?_|refine X.E ?_|refine X.F ?_|refine X.G ?_|refine X.H ?_|refine X.I ?_|fail)
        refine WL.step (o_sliceL (i := i) (by rfl) (by rfl) (by omega) ?_)
        refine WL.step (o_clear (i := i) (by rfl) hown2 (by omega) (by rfl) ?_)
        intro w3 hown3 hbl3 hz3 hk3
        repeat' (first|refine X.O ?_|refine X.A ?_|refine X.B ?_|refine X.C ?_|refine X.D ?_|refine X.E ?_|refine X.F ?_|refine X.G ?_|refine X.H ?_|refine X.I ?_|fail)
        refine WL.step (o_sliceH (i := i) (by rfl) (by rfl) (by have := hIS.shapeC; obtain ⟨_, _, e, hc⟩ := this; simp only [Value.slice.injEq] at e; omega) ?_)
        repeat' (first|refine X.O ?_|refine X.A ?_|refine X.B ?_|refine X.C ?_|refine X.D ?_|refine X.E ?_|refine X.F ?_|refine X.G ?_|refine X.H ?_|refine X.I ?_|fail)
        refine ⟨_, ret1 rfl (by rfl), ?_⟩
        have hf := hown3.take (i := i) (by omega)
        have e3 : ((Ints ys).take i ++ List.replicate (xs.length - i) (Value.int .i64 0)).take i = Ints (xs.filter fun x => !p x) := by
          have hyl : ((Ints ys).take i).length = i := by rw [List.length_take, Ints_length]; omega
          rw [List.take_append_of_le_length (by omega), List.take_of_length_le (by omega), ← hi]
          simp [Ints, List.map_take]
        rw [e3] at hf
        exact ⟨hf, ((hs1.below _).trans hbl2).trans hbl3, by rw [hz3, hz2, hs1.size], fun k hk => by rw [hk3 k hk, hk2 k hk, hs1.heap], by cases a <;> rfl⟩
end Go.Proofs
/- slices.Compact over whole numbers, on a slice that the call owns. -/
namespace Go.Rk
open Go.Fw Go.Proofs
theorem compactGo_drop {xs : List Int} {p : Int} {j : Nat} (h : j < xs.length) : compactGo p (xs.drop j) = if xs[j] = p then compactGo p (xs.drop (j + 1)) else xs[j] :: compactGo xs[j] (xs.drop (j + 1)) := by
  rw [List.drop_eq_getElem_cons h, compactGo]
theorem compactL_first {xs : List Int} (h : 0 < xs.length) : compactL xs = xs.take 1 ++ compactGo xs[0] (xs.drop 1) := by
  cases xs with
  | nil => simp at h
  | cons x xs => rfl
end Go.Rk
namespace Go.Proofs
open Go Go.Fw Go.RowKit Go.Rk
theorem Compact_any {lo : Nat} {w : World} {v : Value} {xs : List Int} (h : Own lo 2 w v (Ints xs)) :
    Does Tryz.prog 71 [v] w fun r w' => Own lo 2 w' r (Ints (compactL xs)) ∧ Below lo w w' ∧ w'.heap.size = w.heap.size := by
  obtain ⟨a, c, hv, _⟩ := h.shape
  rw [Ints_length] at hv
  subst hv
  have hIS := Own.is h
  have hm := hIS.len
  unfold maxLen at hm
  have hcap : xs.length ≤ c := by have := hIS.shapeC; obtain ⟨_, _, e, hc⟩ := this; simp only [Value.slice.injEq] at e; omega
  refine Does.enter Tryz.func71 Tryz.ntmps71 rfl (by rfl) ?_
  repeat' (first|refine X.O ?_|refine X.A ?_|refine X.B ?_|refine X.C ?_|refine X.D ?_|refine X.E ?_|refine X.F ?_|refine X.G ?_|refine X.H ?_|refine X.I ?_|fail)
  first|refine X.J (fun _ => ?_) (fun _ => ?_)|refine X.L (fun _ => ?_) (fun _ => ?_)|refine X.M (fun _ => ?_) (fun _ => ?_)|refine X.R (fun _ => ?_) (fun _ => ?_)|fail
  · rename_i hlt2
    repeat' (first|refine X.O ?_|refine X.A ?_|refine X.B ?_|refine X.C ?_|refine X.D ?_|refine X.E ?_|refine X.F ?_|refine X.G ?_|refine X.H ?_|refine X.I ?_|fail)
    refine ⟨_, ret1 rfl (by rfl), ?_⟩
    have e : compactL xs = xs := by
      match xs, hlt2 with
      | [], _ => rfl
      | [x], _ => rfl
      | _ :: _ :: _, h => simp at h; omega
    rw [e]
    exact ⟨h, Below.refl _ _, rfl⟩
  · rename_i hge2
    have hp : 0 < xs.length := by omega
    repeat' (first|refine X.O ?_|refine X.A ?_|refine X.B ?_|refine X.C ?_|refine X.D ?_|refine X.E ?_|refine X.F ?_|refine X.G ?_|refine X.H ?_|refine X.I ?_|fail)
    refine WP.loop (fun (k : Nat) => [(0, .slice a xs.length c), (3, .int .i64 (k : Nat))])
      (fun k w1 => 1 ≤ k ∧ k ≤ xs.length ∧ (∃ hk : k - 1 < xs.length, compactL xs = xs.take k ++ compactGo xs[k - 1] (xs.drop k)) ∧ Still w w1)
      (fun k => xs.length - k) 1 ⟨rfl, rfl, trivial⟩ ⟨by omega, by omega, ⟨by omega, compactL_first hp⟩, Still.refl _⟩ ?_
    rintro k w1 ⟨hk1, hk2, ⟨hkl, hcc⟩, hs1⟩
    have h1 := hIS.still RI.stable hs1
    repeat' (first|refine X.O ?_|refine X.A ?_|refine X.B ?_|refine X.C ?_|refine X.D ?_|refine X.E ?_|refine X.F ?_|refine X.G ?_|refine X.H ?_|refine X.I ?_|fail)
    first|refine X.J (fun _ => ?_) (fun _ => ?_)|refine X.L (fun _ => ?_) (fun _ => ?_)|refine X.M (fun _ => ?_) (fun _ => ?_)|refine X.R (fun _ => ?_) (fun _ => ?_)|fail
    · rename_i hlt
      have hkn : k < xs.length := by omega
      rw [compactGo_drop hkn] at hcc
      repeat' (first|refine X.O ?_|refine X.A ?_|refine X.B ?_|refine X.C ?_|refine X.D ?_|refine X.E ?_|refine X.F ?_|refine X.G ?_|refine X.H ?_|refine X.I ?_|fail)
      refine WP.drawn (fun w' => w'.heap = w1.heap) [(0, true), (1, true), (2, true), (3, true), (4, true), (5, true), (6, true), (7, true), (8, true), (9, true)] (by kernel_rfl) mixed ?_
      intro w2 hs2
      have hw2 : w2.heap = w1.heap := hs2.heap
      repeat' (first|refine X.U rfl ?_|refine X.V rfl ?_|refine X.W rfl ?_|refine X.Y rfl ?_|refine X.Z rfl ?_|refine WS.nil ?_|fail)
      refine WS.ixload (j := k) rfl rfl (h1.still RI.stable hs2) (List.getElem?_eq_getElem hkn) (fun w' hw' => same_heap (hw'.trans hw2.symm)) hw2 ?_
      rintro p1 _ rfl
      repeat' (first|refine X.U rfl ?_|refine X.V rfl ?_|refine X.W rfl ?_|refine X.Y rfl ?_|refine X.Z rfl ?_|refine WS.nil ?_|fail)
      refine WS.ixload (j := k - 1) rfl rfl (h1.still RI.stable hs2) (List.getElem?_eq_getElem hkl) (fun w' hw' => same_heap (hw'.trans hw2.symm)) hw2 ?_
      rintro p2 _ rfl
      repeat' (first|refine X.U rfl ?_|refine X.V rfl ?_|refine X.W rfl ?_|refine X.Y rfl ?_|refine X.Z rfl ?_|refine WS.nil ?_|fail)
      repeat' (first|refine X.O ?_|refine X.A ?_|refine X.B ?_|refine X.C ?_|refine X.D ?_|refine X.E ?_|refine X.F ?_|refine X.G ?_|refine X.H ?_|refine X.I ?_|fail)
      first|refine X.J (fun _ => ?_) (fun _ => ?_)|refine X.L (fun _ => ?_) (fun _ => ?_)|refine X.M (fun _ => ?_) (fun _ => ?_)|refine X.R (fun _ => ?_) (fun _ => ?_)|fail
      · rename_i heq
        rw [if_pos heq] at hcc
        have hs12 := hs1.trans hs2
        have hown2 := h.still hs12
        repeat' (first|refine X.O ?_|refine X.A ?_|refine X.B ?_|refine X.C ?_|refine X.D ?_|refine X.E ?_|refine X.F ?_|refine X.G ?_|refine X.H ?_|refine X.I ?_|fail)
        refine WL.step (o_sliceL (i := k) (by rfl) (by rfl) (by omega) ?_)
        repeat' (first|refine X.O ?_|refine X.A ?_|refine X.B ?_|refine X.C ?_|refine X.D ?_|refine X.E ?_|refine X.F ?_|refine X.G ?_|refine X.H ?_|refine X.I ?_|fail)
        refine WP.loop (fun (s : Nat × Nat × List Int) => [(0, .slice a xs.length c), (3, .int .i64 (s.1 : Nat)), (4, .slice (lowAddr a c k) (xs.length - k) (c - k)), (5, .int .i64 (s.2.1 : Nat))])
          (fun s w3 => 1 ≤ s.2.1 ∧ k + s.2.1 ≤ xs.length ∧ s.1 ≤ k + s.2.1 - 1 ∧ s.2.2.length = xs.length ∧ s.2.2.drop (k + s.2.1 - 1) = xs.drop (k + s.2.1 - 1) ∧ (∃ hj : k + s.2.1 - 1 < xs.length, compactL xs = s.2.2.take s.1 ++ compactGo xs[k + s.2.1 - 1] (xs.drop (k + s.2.1))) ∧ Own lo 2 w3 (.slice a xs.length c) (Ints s.2.2) ∧ Below lo w w3 ∧ w3.heap.size = w.heap.size)
          (fun s => xs.length - (k + s.2.1)) (k, 1, xs) ⟨rfl, rfl, rfl, rfl, trivial⟩ ⟨by dsimp only; omega, by dsimp only; omega, by dsimp only; omega, rfl, rfl, ⟨by dsimp only; omega, ?_⟩, hown2, hs12.below _, hs12.size⟩ ?_
        · show compactL xs = xs.take k ++ compactGo xs[k] (xs.drop (k + 1))
          rw [heq]
          exact hcc
        rintro ⟨q, k2, ys⟩ w3 ⟨hk21, hk22, hq, hyl, hyd, ⟨hj, hcc2⟩, hown3, hbl3, hz3⟩
        dsimp only at hk21 hk22 hq hyl hyd hj hcc2 hown3 ⊢
        have h3 := Own.is hown3
        have h3' : IS lo w3.heap.size w3 (.slice (lowAddr a c k) (xs.length - k) (c - k)) (ys.drop k) := by
          have := SL.drop (R := RI) (i := k) (h3 : IS lo w3.heap.size w3 (.slice a xs.length c) ys) (by omega)
          exact this
        repeat' (first|refine X.O ?_|refine X.A ?_|refine X.B ?_|refine X.C ?_|refine X.D ?_|refine X.E ?_|refine X.F ?_|refine X.G ?_|refine X.H ?_|refine X.I ?_|fail)
        first|refine X.J (fun _ => ?_) (fun _ => ?_)|refine X.L (fun _ => ?_) (fun _ => ?_)|refine X.M (fun _ => ?_) (fun _ => ?_)|refine X.R (fun _ => ?_) (fun _ => ?_)|fail
        · rename_i hlt3
          have hjn : k + k2 < xs.length := by omega
          have hget : ∀ (m : Nat) (hm : m < xs.length), k + k2 - 1 ≤ m → ys[m]'(by omega) = xs[m] := fun m hm hge => by
            have := congrArg (·[m - (k + k2 - 1)]?) hyd
            simp only [List.getElem?_drop] at this
            rw [show k + k2 - 1 + (m - (k + k2 - 1)) = m from by omega, List.getElem?_eq_getElem (by omega), List.getElem?_eq_getElem hm] at this
            exact Option.some.inj this
          have g1 : (ys.drop k)[k2]? = some xs[k + k2] := by rw [List.getElem?_drop, List.getElem?_eq_getElem (by omega), hget _ hjn (by omega)]
          have g2 : (ys.drop k)[k2 - 1]? = some xs[k + k2 - 1] := by rw [List.getElem?_drop, show k + (k2 - 1) = k + k2 - 1 from by omega, List.getElem?_eq_getElem (by omega), hget _ hj (Nat.le_refl _)]
          rw [compactGo_drop hjn] at hcc2
          repeat' (first|refine X.O ?_|refine X.A ?_|refine X.B ?_|refine X.C ?_|refine X.D ?_|refine X.E ?_|refine X.F ?_|refine X.G ?_|refine X.H ?_|refine X.I ?_|fail)
          refine WP.drawn (fun w' => w'.heap = w3.heap) [(0, true), (1, true), (2, true), (3, true), (4, true), (5, true), (6, true), (7, true), (8, true), (9, true)] (by kernel_rfl) mixed ?_
          intro w4 hs4
          have hw4 : w4.heap = w3.heap := hs4.heap
          repeat' (first|refine X.U rfl ?_|refine X.V rfl ?_|refine X.W rfl ?_|refine X.Y rfl ?_|refine X.Z rfl ?_|refine WS.nil ?_|fail)
          refine WS.ixload (j := k2) rfl rfl (h3'.still RI.stable hs4) g1 (fun w' hw' => same_heap (hw'.trans hw4.symm)) hw4 ?_
          rintro p3 _ rfl
          repeat' (first|refine X.U rfl ?_|refine X.V rfl ?_|refine X.W rfl ?_|refine X.Y rfl ?_|refine X.Z rfl ?_|refine WS.nil ?_|fail)
          refine WS.ixload (j := k2 - 1) rfl rfl (h3'.still RI.stable hs4) g2 (fun w' hw' => same_heap (hw'.trans hw4.symm)) hw4 ?_
          rintro p4 _ rfl
          repeat' (first|refine X.U rfl ?_|refine X.V rfl ?_|refine X.W rfl ?_|refine X.Y rfl ?_|refine X.Z rfl ?_|refine WS.nil ?_|fail)
          have hown4 := hown3.still hs4
          have h4' := h3'.still RI.stable hs4
          have hdrop : ys.drop (k + k2) = xs.drop (k + k2) := by
            have := congrArg (List.drop 1) hyd
            rw [List.drop_drop, List.drop_drop, show k + k2 - 1 + 1 = k + k2 from by omega] at this
            exact this
          repeat' (first|refine X.O ?_|refine X.A ?_|refine X.B ?_|refine X.C ?_|refine X.D ?_|refine X.E ?_|refine X.F ?_|refine X.G ?_|refine X.H ?_|refine X.I ?_|fail)
          first|refine X.J (fun _ => ?_) (fun _ => ?_)|refine X.L (fun _ => ?_) (fun _ => ?_)|refine X.M (fun _ => ?_) (fun _ => ?_)|refine X.R (fun _ => ?_) (fun _ => ?_)|fail
          · rename_i hne
            rw [if_neg hne] at hcc2
            repeat' (first|refine X.O ?_|refine X.A ?_|refine X.B ?_|refine X.C ?_|refine X.D ?_|refine X.E ?_|refine X.F ?_|refine X.G ?_|refine X.H ?_|refine X.I ?_|fail)
            refine WL.ixload (j := k2) h4' g1 ?_
            rintro p5 _ rfl
            refine WL.ixstore (j := q) hown4 (by rw [Ints_length]; omega) ?_
            intro p6 w5 hown5 hbl5 hz5 _
            rw [Ints_set] at hown5
            repeat' (first|refine X.O ?_|refine X.A ?_|refine X.B ?_|refine X.C ?_|refine X.D ?_|refine X.E ?_|refine X.F ?_|refine X.G ?_|refine X.H ?_|refine X.I ?_|fail)
            refine ⟨(q + 1, k2 + 1, ys.set q xs[k + k2]), ⟨rfl, (by first|rfl|exact X.T (by omega)), rfl, (by first|rfl|exact X.T (by omega)), trivial⟩, ⟨by dsimp only; omega, by dsimp only; omega, by dsimp only; omega, by rw [List.length_set]; exact hyl, ?_, ⟨by dsimp only; omega, ?_⟩, hown5, (hbl3.trans (hs4.below _)).trans hbl5, by rw [hz5, hs4.size, hz3]⟩, by dsimp only; omega⟩
            · dsimp only
              rw [show k + (k2 + 1) - 1 = k + k2 from by omega, List.drop_set, if_pos (by omega)]
              exact hdrop
            · dsimp only
              have e1 : (ys.set q xs[k + k2]).take (q + 1) = ys.take q ++ [xs[k + k2]] := by
                rw [List.take_set, List.take_succ_eq_append_getElem (show q < ys.length by omega), List.set_append, if_neg (by rw [List.length_take]; omega)]
                have e : q - (List.take q ys).length = 0 := by rw [List.length_take]; omega
                rw [e]
                rfl
              rw [e1, hcc2, List.append_assoc]
              rfl
          · rename_i heq2
            have heq2' := Decidable.not_not.1 heq2
            rw [if_pos heq2'] at hcc2
            repeat' (first|refine X.O ?_|refine X.A ?_|refine X.B ?_|refine X.C ?_|refine X.D ?_|refine X.E ?_|refine X.F ?_|refine X.G ?_|refine X.H ?_|refine X.I ?_|fail)
            refine ⟨(q, k2 + 1, ys), ⟨rfl, rfl, rfl, (by first|rfl|exact X.T (by omega)), trivial⟩, ⟨by dsimp only; omega, by dsimp only; omega, by dsimp only; omega, hyl, ?_, ⟨by dsimp only; omega, ?_⟩, hown4, hbl3.trans (hs4.below _), by rw [hs4.size, hz3]⟩, by dsimp only; omega⟩
            · dsimp only
              rw [show k + (k2 + 1) - 1 = k + k2 from by omega]
              exact hdrop
            · dsimp only
              rw [← heq2'] at hcc2
              exact hcc2
        · rename_i hge3
          have hje : k + k2 = xs.length := by omega
          rw [List.drop_eq_nil_of_le (by omega), compactGo, List.append_nil] at hcc2
          repeat' (first|refine X.O ?_|refine X.A ?_|refine X.B ?_|refine X.C ?_|refine X.D ?_|refine X.E ?_|refine X.F ?_|refine X.G ?_|refine X.H ?_|refine X.I ?_|fail)
          refine WL.step (o_sliceL (i := q) (by rfl) (by rfl) (by omega) ?_)
          refine WL.step (o_clear (i := q) (by rfl) hown3 (by omega) (by rfl) ?_)
          intro w4 hown4 hbl4 hz4 _
          repeat' (first|refine X.O ?_|refine X.A ?_|refine X.B ?_|refine X.C ?_|refine X.D ?_|refine X.E ?_|refine X.F ?_|refine X.G ?_|refine X.H ?_|refine X.I ?_|fail)
          refine WL.step (o_sliceH (i := q) (by rfl) (by rfl) (by omega) ?_)
          repeat' (first|refine X.O ?_|refine X.A ?_|refine X.B ?_|refine X.C ?_|refine X.D ?_|refine X.E ?_|refine X.F ?_|refine X.G ?_|refine X.H ?_|refine X.I ?_|fail)
          refine ⟨_, ret1 rfl (by rfl), ?_⟩
          have hf := hown4.take (i := q) (by omega)
          have e3 : ((Ints ys).take q ++ List.replicate (xs.length - q) (Value.int .i64 0)).take q = Ints (compactL xs) := by
            have hyl2 : ((Ints ys).take q).length = q := by rw [List.length_take, Ints_length]; omega
            rw [List.take_append_of_le_length (by omega), List.take_of_length_le (by omega), hcc2]
            simp [Ints, List.map_take]
          rw [e3] at hf
          exact ⟨hf, hbl3.trans hbl4, by rw [hz4, hz3]⟩
      · rename_i hne
        rw [if_neg hne] at hcc
        repeat' (first|refine X.O ?_|refine X.A ?_|refine X.B ?_|refine X.C ?_|refine X.D ?_|refine X.E ?_|refine X.F ?_|refine X.G ?_|refine X.H ?_|refine X.I ?_|fail)
        refine ⟨k + 1, ⟨rfl, (by first|rfl|exact X.T (by omega)), trivial⟩, ⟨by omega, by omega, ⟨by omega, ?_⟩, hs1.trans hs2⟩, by omega⟩
        rw [List.take_succ_eq_append_getElem hkn, List.append_assoc]
        exact hcc
    · rename_i hge
      have hke : k = xs.length := by omega
      rw [List.drop_eq_nil_of_le (by omega), compactGo, List.append_nil, List.take_of_length_le (by omega)] at hcc
      repeat' (first|refine X.O ?_|refine X.A ?_|refine X.B ?_|refine X.C ?_|refine X.D ?_|refine X.E ?_|refine X.F ?_|refine X.G ?_|refine X.H ?_|refine X.I ?_|fail)
      refine ⟨_, ret1 rfl (by rfl), ?_⟩
      rw [hcc]
      exact ⟨h.still hs1, hs1.below _, hs1.size⟩
end Go.Proofs
