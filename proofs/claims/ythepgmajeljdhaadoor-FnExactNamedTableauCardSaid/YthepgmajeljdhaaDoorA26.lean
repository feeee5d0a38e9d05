/- Level lists: the program's test and the reference's. -/
import Derived.Test.YthepgmajeljdhaaDoorA5
import Derived.Test.YthepgmajeljdhaaDoorPlA
import Derived.Test.YthepgmajeljdhaaDoorA14
import Derived.Test.YthepgmajeljdhaaDoorA21
import Derived.Test.YthepgmajeljdhaaDoorHB
namespace Go.Fw
open Go Go.RowKit
section
variable {P : Program} {N : Nat} {Q : Exit → Fr → World → Prop} {S : World → Prop} {l : Fr} {w : World} {ops : Array Oper} {K : Fr → World → Prop}
variable {d : Nat} {ty : TypeId} {pos : String} {af : Array Edge} {g : Option (Nat × Bool)}
/-- A sum, whatever it is: it wraps. -/
theorem q_addW {x y : Operand} {t t' : TypeId} {a b : Int} (hx : ev l x = some (.int .i64 a)) (hy : ev l y = some (.int .i64 b))
    (hg : wantedL ops l g = some true := by rfl) (hd : Nat.blt d N = true := by rfl) : QW P N ops S ⟨some d, .binOp .add t x y t', ty, pos, af, g⟩ l d (.int .i64 (IntKind.i64.wrap (a + b))) :=
  QW.mk (fun fr ha _ _ => by simp [execOp, ha.ev hx, ha.ev hy, eqGuard, binOp, Op.intArith]) hg hd
end
end Go.Fw
namespace Go.Proofs
open Go Go.Fw Go.RowKit Go.Rk
theorem lt_one_all {p : Nat → Bool} (h : p 0 = true) : ∀ j, j < 0 + 1 → p j = true := fun j hj => by
  have e : j = 0 := by omega
  rw [e]; exact h
end Go.Proofs
/- The branches of a tree: the program's way and the reference's. -/
namespace Go.Fw
open Go Go.RowKit
/-- A row grows by one, in place or anew, and is put back. -/
theorem OwSSv.pushRow {e e2 lo hi i : Nat} {w w1 w2 : World} {v v' u : Value} {vs : List Value} {xss : List (List Int)} {ys zs : List Int} (h : OwSSv e e2 lo hi w v vs xss) (hu : vs[i]? = some u) (hx : xss[i]? = some ys)
    (o1 : Own lo e2 w1 v' (Ints zs)) (f1 : ∀ k, k < w.heap.size → u.ownBlock ≠ some k → w1.heap[k]? = w.heap[k]?) (z1 : w.heap.size ≤ w1.heap.size) (b1 : ∀ k, v'.ownBlock = some k → u.ownBlock = some k ∨ w.heap.size ≤ k)
    (o2 : Own lo e w2 v (vs.set i v')) (f2 : ∀ k, v.ownBlock ≠ some k → w2.heap[k]? = w1.heap[k]?) (z2 : w2.heap.size = w1.heap.size) : OwSSv e e2 lo w2.heap.size w2 v (vs.set i v') (xss.set i zs) := by
  have hi' : i < vs.length := (List.getElem?_eq_some_iff.1 hu).1
  have hxi : i < xss.length := (List.getElem?_eq_some_iff.1 hx).1
  have hru := h.rows i u ys hu hx
  have hhi := h.hi_le
  have own1 : Own lo e w1 v vs := h.own.keep fun k hk => f1 k (h.own.block k hk).2 (h.own.ne_block hru.own h.ne hk)
  refine ⟨o2, fun k hk => (o2.block k hk).2, Nat.le_refl _, by simpa using h.len, fun j u' xs' hu' hx' => ?_, fun j j' u1 u2 hne h1 h2 k hk => ?_, h.ne⟩
  · by_cases hij : i = j
    · subst hij
      rw [List.getElem?_set_self hi'] at hu'
      rw [List.getElem?_set_self hxi] at hx'
      simp only [Option.some.injEq] at hu' hx'
      subst hu' hx'
      exact ⟨o1.keep fun k hk => f2 k fun e' => own1.ne_block o1 h.ne e' hk, fun k hk => by rw [z2]; exact (o1.block k hk).2, Nat.le_refl _⟩
    · rw [List.getElem?_set_ne hij] at hx' hu'
      have hr := h.rows j u' xs' hu' hx'
      have hr1 : Own lo e2 w1 u' (Ints xs') := hr.own.keep fun k hk => f1 k (hr.own.block k hk).2 (fun e' => h.apart j i u' u (fun e => hij e.symm) hu' hu k hk e')
      exact ⟨hr1.keep fun k hk => f2 k fun e' => own1.ne_block hr1 h.ne e' hk, fun k hk => by have := hr.lt k hk; omega, Nat.le_refl _⟩
  · by_cases hij : i = j
    · subst hij
      rw [List.getElem?_set_self hi'] at h1
      rw [List.getElem?_set_ne hne] at h2
      simp only [Option.some.injEq] at h1
      subst h1
      obtain ⟨xs2, hx2⟩ : ∃ xs, xss[j']? = some xs := ⟨_, List.getElem?_eq_getElem (by rw [← h.len]; exact (List.getElem?_eq_some_iff.1 h2).1)⟩
      rcases b1 k hk with hb | hb
      · exact h.apart i j' u u2 hne hu h2 k hb
      · intro e'
        have := (h.rows j' u2 xs2 h2 hx2).lt k e'
        omega
    · rw [List.getElem?_set_ne hij] at h1
      by_cases hij' : i = j'
      · subst hij'
        rw [List.getElem?_set_self hi'] at h2
        simp only [Option.some.injEq] at h2
        subst h2
        obtain ⟨xs1, hx1⟩ : ∃ xs, xss[j]? = some xs := ⟨_, List.getElem?_eq_getElem (by rw [← h.len]; exact (List.getElem?_eq_some_iff.1 h1).1)⟩
        intro e'
        rcases b1 k e' with hb | hb
        · exact h.apart j i u1 u hne h1 hu k hk hb
        · have := (h.rows j u1 xs1 h1 hx1).lt k hk
          omega
      · rw [List.getElem?_set_ne hij'] at h2
        exact h.apart j j' u1 u2 hne h1 h2 k hk
/-- The empty row. -/
theorem OwI.nil (e : TypeId) (lo : Nat) (w : World) : OwI e lo w.heap.size w (.slice none 0 0) [] := ⟨Own.nil _ _ _, fun k hk => by simp [Value.ownBlock] at hk, Nat.le_refl _⟩
end Go.Fw
namespace Go.Proofs
open Go Go.Fw Go.RowKit Go.Rk
end Go.Proofs
/- The branches of a tree: the reference's way. -/
namespace Go.Fw
open Go Go.RowKit
theorem Own.raise {lo : Nat} {e : TypeId} {w : World} {v : Value} {us : List Value} (h : Own lo e w v us) {g : Nat} (hg : v.ownBlock = some g) : Own g e w v us := by
  obtain ⟨h1, ⟨rfl, h0⟩ | ⟨g', cap, cur, rfl, hb, rest⟩⟩ := h
  · simp [Value.ownBlock] at hg
  · simp [Value.ownBlock] at hg
    subst hg
    exact ⟨h1, .inr ⟨g', cap, cur, rfl, Nat.le_refl _, rest⟩⟩
end Go.Fw
namespace Go.Proofs
open Go Go.Fw Go.RowKit Go.Rk
theorem pushB_set (out : List (List Int)) (l : Int) (h : l = 1 ∨ out ≠ []) {o' : List (List Int)} (ho : o' = if l = 1 then out ++ [[]] else out) : pushB out l = o'.set (o'.length - 1) ((o'[o'.length - 1]?.getD []) ++ [l - 1]) := by
  unfold pushB
  by_cases h1 : l = 1
  · rw [if_pos h1] at ho ⊢
    subst ho
    simp
  · rw [if_neg h1] at ho ⊢
    subst ho
    rfl
end Go.Proofs
