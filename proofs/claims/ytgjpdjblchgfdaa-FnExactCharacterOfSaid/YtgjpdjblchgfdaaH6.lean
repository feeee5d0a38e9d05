/- More operations: x[i] = u as a drawn region's last; a slice compared with nil. -/
import Derived.Test.YtgjpdjblchgfdaaH5
namespace Go.Fw
open Go Go.RowKit
section
variable {P : Program} {N : Nat} {Q : Exit → Fr → World → Prop} {S : World → Prop} {l : Fr} {w : World} {ops : Array Oper} {sc : List (Nat × Bool)}
theorem WS.ixstore {m m' : Nat} {t t2 e e' : TypeId} {z : Value} {bytes : Nat} [SliceTy P t e z bytes] [CellTy P t2] {x y x2 y2 : Operand} {kk : IntKind} {i : Int} {j : Nat} {d1 lo : Nat} {v u : Value} {us : List Value} {ty1 ty2 : TypeId} {pos1 pos2 : String} {af1 af2 : Array Edge}
    (hi1 : ops[m]? = some ⟨some d1, .indexAddr t x y, ty1, pos1, af1, none⟩) (hj1 : ops[m' - 1000]? = some ⟨none, .store t2 x2 y2, ty2, pos2, af2, none⟩) (hS : S w)
    (hown : Own lo e' w v us) (h1 : j < us.length)
    (k : ∀ p w1, Own lo e' w1 v (us.set j u) → Below lo w w1 → w1.heap.size = w.heap.size → (∀ k, v.ownBlock ≠ some k → w1.heap[k]? = w.heap[k]?) → WS P N ops Q S sc ((d1, p) :: l) w1)
    (hx : ev l x = some v := by rfl) (hy : ev l y = some (.int kk i) := by rfl) (hij : i = (j : Int) := by first | rfl | omega) (hy2 : ∀ p, ev ((d1, p) :: l) y2 = some u := by intro _; rfl) (hu : u.oneCell' = true := by rfl) (h2 : x2 = .tmp d1 := by rfl)
    (hd1 : Nat.blt d1 N = true := by rfl) (hge : Nat.ble 1000 m' = true := by rfl) : WS P N ops Q S ((m, true) :: (m', false) :: sc) l w := by
  subst h2
  obtain ⟨g, c, rfl, hg1, hg2, hcell, hfz, hob⟩ := hown.cell (i := j) (List.getElem?_eq_getElem h1)
  subst hij
  refine WS.q hi1 (q_ix hx hy (by omega) (by omega) rfl hd1) hS ?_
  rw [Nat.zero_add, Int.toNat_natCast]
  refine WS.last hj1 (o_store (look_cons_self _ _ _) (hy2 _) hcell hfz ?_ hu rfl) hge
  exact k _ _ (Own.setCell hown j u) ((But.setCell w g j u).below hg1) (by simp) (fun k hk => (But.setCell w g j u).block k (fun e => hk (by rw [hob, e])))
end
section
variable {P : Program} {N : Nat} {Q : Exit → Fr → World → Prop} {l : Fr} {w : World} {ops : Array Oper} {K : Fr → World → Prop}
variable {d : Nat} {ty : TypeId} {pos : String} {af : Array Edge} {g : Option (Nat × Bool)}
/-- x == nil. -/
theorem o_eqNil {t e t' : TypeId} {z : Value} {bytes : Nat} [h : SliceTy P t e z bytes] {x y : Operand} {a : Option Addr} {n c : Nat} (hx : ev l x = some (.slice a n c)) (hy : ev l y = some (.slice none 0 0)) (k : K ((d, .bool a.isNone) :: l) w)
    (hg : wantedL ops l g = some true := by rfl) (hd : Nat.blt d N = true := by rfl) : OpW P N ops Q ⟨some d, .binOp .eql t x y t', ty, pos, af, g⟩ l w K :=
  OpW.val (fun fr ha => by
    have h2 : (Op.equal t (.slice a n c) (.slice none 0 0)).run P w = .ok a.isNone w := by
      have key : ∀ m, (Op.equalIn (m + 1) t (.slice a n c) (.slice none 0 0)).run P w = .ok a.isNone w := fun m => by
        cases a <;> simp [Op.equalIn, run_underlying h.und]
      exact key 9999
    simp [execOp, ha.ev hx, ha.ev hy, binOp, eqGuard, h2]) k hg hd
end
end Go.Fw
