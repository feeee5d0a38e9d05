/- Slices from an index on; copy into a slice that the call owns; operations on words whose values are written out. -/
import Derived.Test.YtgjpdjblchgfdaaDrawn
import Derived.Laws.CopyRow
namespace Go.Fw
open Go Go.RowKit
theorem wrap_u64 {z : Int} (h0 : 0 ≤ z) (h1 : z ≤ 18446744073709551615) : IntKind.u64.wrap z = z := by rw [IntKind.wrap_u64]; omega
/-- Where x[i:] begins. -/
def lowAddr (a : Option Addr) (c i : Nat) : Option Addr := if c = i then a else a.map (·.add i)
section
variable {P : Program} {N : Nat} {Q : Exit → Fr → World → Prop} {S : World → Prop} {l : Fr} {w : World} {ops : Array Oper} {K : Fr → World → Prop}
variable {d : Nat} {ty : TypeId} {pos : String} {af : Array Edge} {g : Option (Nat × Bool)}
theorem run_sliceL {t e : TypeId} {z : Value} {bytes : Nat} [h : SliceTy P t e z bytes] {a : Option Addr} {n c i : Nat} {kk : IntKind} (hi : i ≤ n) :
    (Instr.sliceAt t (.slice a n c) (some (.int kk (i : Nat))) none none).run P w = .ok (.slice (lowAddr a c i) (n - i) (c - i)) w := by
  have he : P.elem t = e := by have := h.und; simp [Program.elem, this]
  have hu : P.underlying t = some (.slice (P.elem t)) := by rw [he]; exact h.und
  rw [run_sliceAt_slice w t _ _ _ _ hu, run_slice_l w t a n c hu kk (i : Nat) (by omega) (by omega), he, h.size]
  simp [sliced, lowAddr]
/-- x[i:]. -/
theorem o_sliceL {t e : TypeId} {z : Value} {bytes : Nat} [SliceTy P t e z bytes] {x y : Operand} {a : Option Addr} {n c i : Nat} {kk : IntKind} (hx : ev l x = some (.slice a n c)) (hy : ev l y = some (.int kk (i : Nat))) (hi : i ≤ n)
    (k : K ((d, .slice (lowAddr a c i) (n - i) (c - i)) :: l) w) (hg : wantedL ops l g = some true := by rfl) (hd : Nat.blt d N = true := by rfl) : OpW P N ops Q ⟨some d, .slice t x (some y) none none, ty, pos, af, g⟩ l w K :=
  OpW.val (fun fr ha => by simp [execOp, ha.ev hx, ha.ev hy, run_sliceL (P := P) (t := t) hi]) k hg hd
theorem q_sliceL {t e : TypeId} {z : Value} {bytes : Nat} [SliceTy P t e z bytes] {x y : Operand} {a : Option Addr} {n c i : Nat} {kk : IntKind} (hx : ev l x = some (.slice a n c)) (hy : ev l y = some (.int kk (i : Nat))) (hi : i ≤ n)
    (hg : wantedL ops l g = some true := by rfl) (hd : Nat.blt d N = true := by rfl) : QW P N ops S ⟨some d, .slice t x (some y) none none, ty, pos, af, g⟩ l d (.slice (lowAddr a c i) (n - i) (c - i)) :=
  QW.mk (fun fr ha _ _ => by simp [execOp, ha.ev hx, ha.ev hy, run_sliceL (P := P) (t := t) hi]) hg hd
theorem SL.drop {α : Type} {R : Nat → Nat → World → Value → α → Prop} {lo hi : Nat} {xs : List α} {a : Option Addr} {n c i : Nat} (h : SL R lo hi w (.slice a n c) xs) (hi' : i ≤ xs.length) : SL R lo hi w (.slice (lowAddr a c i) (n - i) (c - i)) (xs.drop i) := by
  obtain ⟨hz, a', c', hv, hl, hn, h⟩ := h
  simp only [Value.slice.injEq] at hv
  obtain ⟨rfl, rfl, rfl⟩ := hv
  refine ⟨hz, lowAddr a c i, c - i, by rw [List.length_drop], by rw [List.length_drop]; omega, ⟨by rw [List.length_drop]; omega, fun hno => ?_⟩, fun j x hx => ?_⟩
  · unfold lowAddr at hno
    split at hno
    · omega
    · cases ha : a with
      | none => have := hn.2 ha; omega
      | some ad => rw [ha] at hno; simp at hno
  · rw [List.getElem?_drop] at hx
    obtain ⟨b, o, u, ha, h1, h2, hc, hr⟩ := h _ x hx
    have hlt := (List.getElem?_eq_some_iff.1 hx).1
    subst ha
    refine ⟨b, o + i, u, ?_, h1, h2, by rw [Nat.add_assoc]; exact hc, hr⟩
    unfold lowAddr
    rw [if_neg (by omega)]
    simp [Addr.add]
/-- An operation of two words, by its value. -/
theorem o_bin {op : BinOp} {x y : Operand} {t t' : TypeId} {k1 k2 : IntKind} {a b : Int} {v : Value} (hx : ev l x = some (.int k1 a)) (hy : ev l y = some (.int k2 b)) (hr : ∀ w, (binOp op t (.int k1 a) (.int k2 b)).run P w = .ok v w) (hq : ∀ w, (eqGuard op t x y (.int k1 a) (.int k2 b)).run P w = .ok () w)
    (k : K ((d, v) :: l) w) (hg : wantedL ops l g = some true := by rfl) (hd : Nat.blt d N = true := by rfl) : OpW P N ops Q ⟨some d, .binOp op t x y t', ty, pos, af, g⟩ l w K :=
  OpW.val (fun fr ha => by simp [execOp, ha.ev hx, ha.ev hy, hq, hr]) k hg hd
/-- A conversion between kinds of whole numbers. -/
theorem o_convK {t u : TypeId} {k1 k2 : IntKind} [h1 : IntTy P t k1] [h2 : IntTy P u k2] {x : Operand} {a b : Int} (hx : ev l x = some (.int k1 a)) (hb : k2.wrap a = b) (k : K ((d, .int k2 b) :: l) w)
    (hg : wantedL ops l g = some true := by rfl) (hd : Nat.blt d N = true := by rfl) : OpW P N ops Q ⟨some d, .convert t u x, ty, pos, af, g⟩ l w K :=
  OpW.val (fun fr ha => by simp [execOp, ha.ev hx, convert, run_underlying h1.und, run_underlying h2.und, Conv.intToInt, hb]) k hg hd
theorem copy_own {t e : TypeId} {z : Value} {bytes : Nat} (h : SliceTy P t e z bytes) {lo b o dLen dCap sLen sCap n c : Nat} {a : Addr} {us cs : List Value} {e' : TypeId} (hown : Own lo e' w (.slice (some ⟨b, 0, none⟩) n c) us)
    (hn : cs.length = Nat.min sLen dLen) (hsrc : ∀ j v, cs[j]? = some v → w.cell? (a.add j) = some v) (hfit : o + cs.length ≤ us.length) (h1 : ∀ v ∈ cs, v.oneCell' = true) :
    ∃ w1, (Builtin.copy_ #[t, t] ty #[.slice (some ⟨b, o, none⟩) dLen dCap, .slice (some a) sLen sCap]).run P w = .ok (goInt cs.length) w1 ∧
      Own lo e' w1 (.slice (some ⟨b, 0, none⟩) n c) (us.take o ++ cs ++ us.drop (o + cs.length)) ∧ Below lo w w1 ∧ w1.heap.size = w.heap.size := by
  obtain ⟨i0, hi, hz0, hz1, hz2⟩ := info_parts h.info
  obtain ⟨hxs, ⟨he, _⟩ | ⟨g', cap, cur, he, hbg, hg, hnc, hcm, hcs, htake⟩⟩ := hown
  · cases he
  · simp only [Value.slice.injEq, Option.some.injEq, Addr.mk.injEq] at he
    obtain ⟨⟨rfl, _⟩, rfl, rfl⟩ := he
    obtain ⟨n, hul⟩ : ∃ n, n = us.length := ⟨_, rfl⟩
    refine ⟨_, run_copy_row (P := P) w t t ty e b o dLen dCap a sLen sCap cur e' cs h.und (by rw [hi]; simp [hz1]) hg hn hsrc (by omega) h1, ⟨?_, .inr ⟨b, c, _, by simp only [Value.slice.injEq, true_and, and_true]; simp; omega, hbg, setRow_heap w b cur _ e' _ hg, ?_, hcm, ?_, ?_⟩⟩, ⟨by simp, by simp, by simp, by simp, fun k hk => setRow_other w b k _ (by omega)⟩, by simp⟩
    · simp
    · simp; omega
    · simp; omega
    · have e1 : (us.take o ++ cs ++ us.drop (o + cs.length)).length = n := by simp; omega
      rw [e1]
      have e2 : us = cur.toList.take n := by rw [hul]; rw [Nat.mul_one] at htake; exact htake.symm
      clear htake
      rw [← hul] at hnc hfit
      clear hul e1 hxs
      rw [e2]
      simp only [Nat.mul_one]
      apply List.ext_getElem?
      intro j
      have hcl : cur.toList.length = c := by simp; omega
      by_cases hj : j < n
      · rw [List.getElem?_take, if_pos hj]
        by_cases h5 : j < o
        · rw [List.append_assoc, List.append_assoc, List.getElem?_append_left (by simp; omega), List.getElem?_append_left (by simp; omega), List.getElem?_take, if_pos h5, List.getElem?_take, if_pos h5, List.getElem?_take, if_pos hj]
        · by_cases h6 : j < o + cs.length
          · rw [List.getElem?_append_left (by simp; omega), List.getElem?_append_right (by simp; omega), List.getElem?_append_left (by simp; omega), List.getElem?_append_right (by simp; omega)]
            simp only [List.length_take]
            congr 1
            omega
          · rw [List.getElem?_append_right (by simp; omega), List.getElem?_append_right (by simp; omega), List.getElem?_drop, List.getElem?_drop, List.getElem?_take, if_pos (by simp; omega)]
            congr 1
            simp
            omega
      · rw [List.getElem?_eq_none (by simp; omega), List.getElem?_eq_none (by simp; omega)]
/-- copy into a slice that the call owns. -/
theorem o_copy {t e : TypeId} {z : Value} {bytes : Nat} [h : SliceTy P t e z bytes] {lo b o dLen dCap sLen sCap n c : Nat} {x y : Operand} {a : Addr} {us cs : List Value} {e' : TypeId} (hx : ev l x = some (.slice (some ⟨b, o, none⟩) dLen dCap)) (hy : ev l y = some (.slice (some a) sLen sCap)) (hown : Own lo e' w (.slice (some ⟨b, 0, none⟩) n c) us)
    (hn : cs.length = Nat.min sLen dLen) (hsrc : ∀ j v, cs[j]? = some v → w.cell? (a.add j) = some v) (hfit : o + cs.length ≤ us.length) (h1 : ∀ v ∈ cs, v.oneCell' = true)
    (k : ∀ w1, Own lo e' w1 (.slice (some ⟨b, 0, none⟩) n c) (us.take o ++ cs ++ us.drop (o + cs.length)) → Below lo w w1 → w1.heap.size = w.heap.size → K ((d, .int .i64 cs.length) :: l) w1)
    (hg : wantedL ops l g = some true := by rfl) (hd : Nat.blt d N = true := by rfl) : OpW P N ops Q ⟨some d, .call { callee := .builtin .copy, args := #[x, y], argTypes := #[t, t] }, ty, pos, af, g⟩ l w K := by
  obtain ⟨w1, hr, h2, h3, h4⟩ := copy_own (ty := ty) (dCap := dCap) (sCap := sCap) h hown hn hsrc hfit h1
  refine OpW.val (w' := w1) (v := .int .i64 cs.length) (fun fr ha => ?_) (k w1 h2 h3 h4) hg hd
  simp [execOp, resolve, invoke, builtin, ha.ev hx, ha.ev hy, hr, goInt]
end
end Go.Fw
