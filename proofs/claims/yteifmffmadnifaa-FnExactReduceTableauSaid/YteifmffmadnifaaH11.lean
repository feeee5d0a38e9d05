/- The built-in clear of a slice's tail, the head of an owned slice, and slices.DeleteFunc over whole numbers. -/
import Derived.Test.YteifmffmadnifaaA1
import Derived.Test.YteifmffmadnifaaHB
namespace Go.Fw
open Go Go.RowKit
section
variable {P : Program} {N : Nat} {Q : Exit → Fr → World → Prop} {S : World → Prop} {l : Fr} {w : World} {ops : Array Oper} {K : Fr → World → Prop}
variable {d : Nat} {ty : TypeId} {pos : String} {af : Array Edge} {g : Option (Nat × Bool)}
/-- An operation whose value goes nowhere. -/
theorem OpW.valN {op : Op} {w' : World} {v : Value} (hr : ∀ a, Rep N a l → (execOp a.eval ⟨none, op, ty, pos, af, g⟩).run P w = .ok (.value v) w')
    (k : K l w') (hg : wantedL ops l g = some true := by rfl) : OpW P N ops Q ⟨none, op, ty, pos, af, g⟩ l w K := fun a ha K' hK => by
  rw [wantedL_sound (o := ⟨none, op, ty, pos, af, g⟩) ha hg]
  refine .inl ?_
  unfold Oper.wp
  rw [hr a ha]
  exact hK _ _ _ (ha.put_none v) k
theorem clear_own {t e : TypeId} {z : Value} {bytes : Nat} (h : SliceTy P t e z bytes) {lo n c i : Nat} {a : Option Addr} {us : List Value} {e' : TypeId} (hown : Own lo e' w (.slice a n c) us) (hi : i ≤ n) (h1 : z.oneCell' = true) :
    ∃ w1, (Builtin.clear_ #[t] ty #[.slice (lowAddr a c i) (n - i) (c - i)]).run P w = .ok (.tuple #[]) w1 ∧
      Own lo e' w1 (.slice a n c) (us.take i ++ List.replicate (n - i) z) ∧ Below lo w w1 ∧ w1.heap.size = w.heap.size ∧ ∀ j, (Value.slice a n c).ownBlock ≠ some j → w1.heap[j]? = w.heap[j]? := by
  have hul : us.length = n := by obtain ⟨_, _, hv, _⟩ := hown.shape; simp only [Value.slice.injEq] at hv; omega
  by_cases hin : i = n
  · subst hin
    refine ⟨w, ?_, by rw [Nat.sub_self, List.replicate_zero, List.append_nil, List.take_of_length_le (by omega)]; exact hown, Below.refl _ _, rfl, fun _ _ => rfl⟩
    rw [Nat.sub_self]
    cases lowAddr a c i <;> simp [Builtin.clear_, run_underlying h.und]
  · have hown0 := hown
    obtain ⟨hxs, ⟨he, _⟩ | ⟨g', cap, cur, he, hbg, hg, hnc, hcm, hcs, htake⟩⟩ := hown
    · simp only [Value.slice.injEq] at he
      omega
    · simp only [Value.slice.injEq] at he
      obtain ⟨rfl, hn', rfl⟩ := he
      obtain ⟨m, hm⟩ : ∃ m, n - i = m + 1 := ⟨n - i - 1, by omega⟩
      have hla : lowAddr (some ⟨g', 0, none⟩) c i = some ⟨g', i, none⟩ := by
        unfold lowAddr
        rw [if_neg (by omega)]
        simp [Addr.add]
        try (intro h0; omega)
      have hzc : (Builtin.zeroCells z.cells (n - i)).toList = List.replicate (n - i) z := by
        rw [h.one]
        simp [Builtin.zeroCells]
        apply List.ext_getElem
        · simp
        · intro i h1 h2
          simp [Nat.mod_one]
      have hst := run_storeCells_at (P := P) g' i e' (List.replicate (n - i) z) 0 cur w hg (by simp; omega) (fun v hv => by rw [List.eq_of_mem_replicate hv]; exact h1)
      simp only [Nat.add_zero, List.length_replicate] at hst
      have hzr := h.zeroRun (w := w)
      refine ⟨w.setRow g' (List.take i cur.toList ++ List.replicate (n - i) z ++ List.drop (i + (n - i)) cur.toList).toArray, ?_, ⟨?_, .inr ⟨g', c, (List.take i cur.toList ++ List.replicate (n - i) z ++ List.drop (i + (n - i)) cur.toList).toArray, by simp; omega, hbg, setRow_heap w g' cur _ e' _ hg, ?_, hcm, ?_, ?_⟩⟩, ⟨by simp, by simp, by simp, by simp, fun k hk => setRow_other w g' k _ (by omega)⟩, by simp, fun j hj => setRow_other w g' j _ (fun e => hj (by simp [Value.ownBlock, e]))⟩
      · rw [hla, hm]
        rw [hm] at hzc hst
        simp [Builtin.clear_, run_underlying h.und, hzr, hzc, hst]
      · simp
      · simp; omega
      · simp; omega
      · have e1 : (us.take i ++ List.replicate (n - i) z).length = n := by simp; omega
        rw [e1]
        have e2 : us = cur.toList.take n := by rw [← hul]; rw [Nat.mul_one] at htake; exact htake.symm
        clear htake
        simp only [Nat.mul_one]
        rw [show (us.take i) = cur.toList.take i from by rw [e2, List.take_take, Nat.min_eq_left hi]]
        have hcl : cur.toList.length = c := by simp; omega
        have e3 : (cur.toList.take i ++ List.replicate (n - i) z).length = n := by simp; omega
        rw [List.take_append_of_le_length (by omega), List.take_of_length_le (by omega)]
/-- clear of the tail of a slice that the call owns. -/
theorem o_clear {t e : TypeId} {z : Value} {bytes : Nat} [h : SliceTy P t e z bytes] {lo n c i : Nat} {x : Operand} {a : Option Addr} {us : List Value} {e' : TypeId} (hx : ev l x = some (.slice (lowAddr a c i) (n - i) (c - i))) (hown : Own lo e' w (.slice a n c) us) (hi : i ≤ n) (h1 : z.oneCell' = true)
    (k : ∀ w1, Own lo e' w1 (.slice a n c) (us.take i ++ List.replicate (n - i) z) → Below lo w w1 → w1.heap.size = w.heap.size → (∀ j, (Value.slice a n c).ownBlock ≠ some j → w1.heap[j]? = w.heap[j]?) → K l w1)
    (hg : wantedL ops l g = some true := by rfl) : OpW P N ops Q ⟨none, .call { callee := .builtin .clear, args := #[x], argTypes := #[t] }, ty, pos, af, g⟩ l w K := by
  obtain ⟨w1, hr, h2, h3, h4, h5⟩ := clear_own (ty := ty) h hown hi h1
  refine OpW.valN (w' := w1) (v := .tuple #[]) (fun fr ha => ?_) (k w1 h2 h3 h4 h5) hg
  simp [execOp, resolve, invoke, builtin, ha.ev hx, hr]
end
end Go.Fw
