/- Forests that share rows: read by the blocks that they own, whoever else reads them. -/
import Derived.Test.YthepgmajeljdhaaGreatK1
import Derived.Test.YthepgmajeljdhaaGreatA21
import Derived.Maps.AppendAt
namespace Go.Fw
open Go Go.RowKit
/-- All rows of the types e and e2 are as they were. -/
structure TSame (e e2 : TypeId) (w w' : World) : Prop where
  size : w.heap.size ≤ w'.heap.size
  row : ∀ (k : Nat) (cur : Array Value) (t : TypeId), w.heap[k]? = some (Obj.cells cur t (0, 0)) → t = e ∨ t = e2 → w'.heap[k]? = w.heap[k]?
theorem TSame.refl (e e2 : TypeId) (w : World) : TSame e e2 w w := ⟨Nat.le_refl _, fun _ _ _ _ _ => rfl⟩
theorem TSame.trans {e e2 : TypeId} {a b c : World} (h : TSame e e2 a b) (h' : TSame e e2 b c) : TSame e e2 a c :=
  ⟨Nat.le_trans h.size h'.size, fun k cur t hk ht => (h'.row k cur t (by rw [h.row k cur t hk ht]; exact hk) ht).trans (h.row k cur t hk ht)⟩
theorem TSame.below {e e2 : TypeId} {w w' : World} (h : Below w.heap.size w w') : TSame e e2 w w' := ⟨h.size, fun k _ _ hk _ => h.block k (Array.getElem?_eq_some_iff.1 hk).1⟩
theorem TSame.still {e e2 : TypeId} {w w' : World} (h : Still w w') : TSame e e2 w w' := TSame.below (h.below _)
/-- A store into a block of another type. -/
theorem TSame.but {e e2 tt : TypeId} {b : Nat} {w w' : World} {cur : Array Value} (h : But b w w') (hb : w.heap[b]? = some (Obj.cells cur tt (0, 0))) (h1 : tt ≠ e) (h2 : tt ≠ e2) : TSame e e2 w w' :=
  ⟨by rw [h.size]; exact Nat.le_refl _, fun k c t hk ht => h.block k fun ek => by
    rw [ek, hb] at hk
    simp only [Option.some.injEq, Obj.cells.injEq] at hk
    rcases ht with rfl | rfl
    · exact h1 hk.2.1
    · exact h2 hk.2.1⟩
theorem Own.tsame {e e2 e' lo : Nat} {w w' : World} {v : Value} {us : List Value} (h : Own lo e' w v us) (hs : TSame e e2 w w') (he : e' = e ∨ e' = e2) : Own lo e' w' v us :=
  h.keep fun k hk => by
    obtain ⟨cur, hc⟩ := h.elem hk
    exact hs.row k cur e' hc he
/-- A forest: the outer row's blocks, and each row's. -/
def Roo (e e2 : TypeId) (w : World) (v : Value) (xss : List (List Int)) : Prop :=
  ∃ lo vs, Own lo e w v vs ∧ vs.length = xss.length ∧ ∀ (i : Nat) u xs, vs[i]? = some u → xss[i]? = some xs → ∃ lo', Own lo' e2 w u (Ints xs)
theorem Roo.tsame {e e2 : TypeId} {w w' : World} {v : Value} {xss : List (List Int)} (h : Roo e e2 w v xss) (hs : TSame e e2 w w') : Roo e e2 w' v xss := by
  obtain ⟨lo, vs, h1, h2, h3⟩ := h
  exact ⟨lo, vs, h1.tsame hs (Or.inl rfl), h2, fun i u xs hu hx => by obtain ⟨lo', h4⟩ := h3 i u xs hu hx; exact ⟨lo', h4.tsame hs (Or.inr rfl)⟩⟩
theorem Roo.rd {e e2 : TypeId} {w : World} {v : Value} {xss : List (List Int)} (h : Roo e e2 w v xss) : ISS 0 w.heap.size w v xss := by
  obtain ⟨lo, vs, h1, h2, h3⟩ := h
  exact h1.toSL h2 (Nat.zero_le _) (fun k hk => (h1.block k hk).2) (Nat.le_refl _) fun i u xs hu hx => by
    obtain ⟨lo', h4⟩ := h3 i u xs hu hx
    exact h4.toIS (Nat.zero_le _)
theorem Roo.nil (e e2 : TypeId) (w : World) : Roo e e2 w (.slice none 0 0) [] := ⟨0, [], Own.nil _ _ _, rfl, fun i u xs hu => by simp at hu⟩
theorem OwSSv.roo {e e2 : TypeId} {lo hi : Nat} {w : World} {v : Value} {vs : List Value} {xss : List (List Int)} (h : OwSSv e e2 lo hi w v vs xss) : Roo e e2 w v xss :=
  ⟨lo, vs, h.own, h.len, fun i u xs hu hx => ⟨lo, (h.rows i u xs hu hx).own⟩⟩
theorem Roo.shape {e e2 : TypeId} {w : World} {v : Value} {xss : List (List Int)} (h : Roo e e2 w v xss) : ∃ a c, v = .slice a xss.length c := h.rd.shape
/-- Two forests, one behind the other, in a new row. -/
theorem Roo.append {e e2 : TypeId} {lo : Nat} {w : World} {v v1 : Value} {us vs : List Value} {xss yss : List (List Int)} (h : Own lo e w v (us ++ vs)) (h1 : us.length = xss.length) (h2 : vs.length = yss.length)
    (r1 : ∀ (i : Nat) u xs, us[i]? = some u → xss[i]? = some xs → ∃ lo', Own lo' e2 w u (Ints xs)) (r2 : ∀ (i : Nat) u xs, vs[i]? = some u → yss[i]? = some xs → ∃ lo', Own lo' e2 w u (Ints xs)) : Roo e e2 w v (xss ++ yss) :=
  ⟨lo, us ++ vs, h, by simp [h1, h2], fun i u xs hu hx => by
    rw [List.getElem?_append] at hu hx
    rw [← h1] at hx
    split at hu
    · rename_i hi; rw [if_pos hi] at hx; exact r1 i u xs hu hx
    · rename_i hi; rw [if_neg hi] at hx; exact r2 _ u xs hu hx⟩
end Go.Fw
/- The slices of structs of three cells in this program. -/
namespace Go.Proofs
open Go Go.Fw Go.RowKit
end Go.Proofs
/- append of one struct of three cells, with the block of its result told; a cell of an element read and written. -/
namespace Go.Fw
open Go Go.RowKit
section
variable {P : Program} {N : Nat} {Q : Exit → Fr → World → Prop} {l : Fr} {w : World} {ops : Array Oper} {K : Fr → World → Prop} {S : World → Prop}
variable {d : Nat} {ty : TypeId} {pos : String} {af : Array Edge} {g : Option (Nat × Bool)}
/-- What an append of one struct leaves. -/
structure App3 (lo : Nat) (e : TypeId) (v v' : Value) (ts' : List Tri) (w w' : World) : Prop where
  own : Own3 lo e w' v' ts'
  bel : Below lo w w'
  out : ∀ k, k < w.heap.size → v.ownBlock ≠ some k → w'.heap[k]? = w.heap[k]?
  blk : ∀ k, v'.ownBlock = some k → v.ownBlock = some k ∨ w.heap.size ≤ k
theorem App3.tsame {lo : Nat} {e e1 e2 : TypeId} {v v' : Value} {ts ts' : List Tri} {w w' : World} (h : App3 lo e v v' ts' w w') (ho : Own3 lo e w v ts) (h1 : e ≠ e1) (h2 : e ≠ e2) : TSame e1 e2 w w' :=
  ⟨h.bel.size, fun k cur t hk ht => h.out k (Array.getElem?_eq_some_iff.1 hk).1 fun e' => by
    obtain ⟨c2, hc⟩ := ho.elem e'
    rw [hc] at hk
    simp only [Option.some.injEq, Obj.cells.injEq] at hk
    rcases ht with rfl | rfl
    · exact h1 hk.2.1
    · exact h2 hk.2.1⟩
/-- append(s, x...), x a slice that holds one struct. -/
theorem o_append3 {t e : TypeId} {z : Array Value} {bytes : Nat} [h : SliceTy3 P t e z bytes] {lo lo1 : Nat} {s y : Operand} {v v1 : Value} {tr : Tri} {ts : List Tri}
    (hs : ev l s = some v) (hy : ev l y = some v1) (hown : Own3 lo e w v ts) (hown1 : Own3 lo1 e w v1 [tr]) (h1 : tr.one)
    (hm : ts.length + 1 ≤ maxLen) (hb : (ts.length + 1) * bytes ≤ 140737488355328) (hlo : lo ≤ w.heap.size)
    (k : ∀ v' w', App3 lo e v v' (ts ++ [tr]) w w' → K ((d, v') :: l) w')
    (hg : wantedL ops l g = some true := by rfl) (hd : Nat.blt d N = true := by rfl) :
    OpW P N ops Q ⟨some d, .call { callee := .builtin .append, args := #[s, y], argTypes := #[t, t] }, ty, pos, af, g⟩ l w K := by
  obtain ⟨g1, c1, hv1, _, _, hcell1, _, _⟩ := hown1.place (i := 0) (t := tr) rfl
  have hn1 : [tr].length = 1 := rfl
  rw [hn1] at hv1
  subst hv1
  have hi := h.info
  obtain ⟨za, zb, zc, hz⟩ := h.three
  cases hi2 : P.info? e with
  | none => simp [hi2] at hi
  | some i =>
    simp [hi2] at hi
    obtain ⟨v', w', hr, h2, h3, h4, h5⟩ := run_append_own_at (P := P) (w := w) lo t ty e i (.agg z) 3 bytes h.und hi2 hi.1 hi.2.1 hi.2.2 (by subst hz; rfl) (by decide) v ts.length (flat3 ts) hown ⟨g1, 0, none⟩ 1 c1 tr.cells rfl (fun j u hu => by
      have e1 : (⟨g1, 0, none⟩ : Addr).add j = ⟨g1, j, none⟩ := by unfold Addr.add; split <;> simp_all
      rw [e1]
      have := hcell1 j u hu
      simpa using this) (fun u hu => by
        unfold Tri.cells at hu
        simp only [List.mem_cons, List.not_mem_nil, or_false] at hu
        rcases hu with rfl | rfl | rfl
        · exact h1.1
        · exact h1.2.1
        · exact h1.2.2) hm hb hlo
    refine OpW.val (w' := w') (v := v') (fun fr ha => ?_) (k v' w' ⟨?_, grown_below h3 hlo fun k hk => (hown.block k hk).1, fun k hk hne => h3.block k hk (fun e => hne e.symm), fun k hk => ?_⟩) hg hd
    · simp [execOp, resolve, invoke, builtin, ha.ev hs, ha.ev hy, hr]
    · unfold Own3
      rw [flat3_append, List.length_append]
      simpa [flat3] using h2
    · rcases h5 with h5 | h5
      · left; rw [← h5]; exact hk
      · right
        rw [h5] at hk
        simp only [Option.some.injEq] at hk
        omega
/-- append(s, x): the literal and the append. -/
theorem WL.app3 {t e : TypeId} {z : Array Value} {bytes : Nat} [h : SliceTy3 P t e z bytes] {lo d1 d2 : Nat} {s x y : Operand} {v : Value} {tr : Tri} {ts : List Tri} {rest : List Oper} {ty1 ty2 : TypeId} {pos1 pos2 : String} {af1 af2 : Array Edge}
    (hs : ∀ u', ev ((d1, u') :: l) s = some v) (hx : ev l x = some (.agg tr.cells.toArray)) (hown : Own3 lo e w v ts) (h1 : tr.one)
    (hm : ts.length + 1 ≤ maxLen) (hb : (ts.length + 1) * bytes ≤ 140737488355328) (hlo : lo ≤ w.heap.size)
    (k : ∀ p v' w', App3 lo e v v' (ts ++ [tr]) w w' → w.heap.size < w'.heap.size → WL P N ops Q rest ((d2, v') :: (d1, p) :: l) w') (hy : y = .tmp d1 := by rfl)
    (hd1 : Nat.blt d1 N = true := by rfl) (hd2 : Nat.blt d2 N = true := by rfl) :
    WL P N ops Q (⟨some d1, .buildSlice t 1 #[(0, x)], ty1, pos1, af1, none⟩ :: ⟨some d2, .call { callee := .builtin .append, args := #[s, y], argTypes := #[t, t] }, ty2, pos2, af2, none⟩ :: rest) l w := by
  subst hy
  refine WL.step (o_lit31 hx ?_ rfl hd1)
  intro v1 w1 hown1 hbl1 hz1
  refine WL.step (o_append3 (hs v1) (look_cons_self _ _ _) (hown.below hbl1 (Nat.le_refl _)) hown1 h1 hm hb (by omega) ?_ rfl hd2)
  intro v' w' ha
  have hz := ha.bel.size
  refine k v1 v' w' ⟨ha.own, (Below.mono hbl1 hlo).trans ha.bel, fun k hk hne => ?_, fun k hk => ?_⟩ (by omega)
  · rw [ha.out k (by omega) hne]; exact hbl1.block k hk
  · rcases ha.blk k hk with h5 | h5
    · exact Or.inl h5
    · exact Or.inr (by omega)
/-- x[i].f of a slice of structs: the place, the field, the load. -/
theorem WL.ixfld3 {t t2 s e : TypeId} {z : Array Value} {bytes f off : Nat} [SliceTy3 P t e z bytes] [FieldTy P s f off] [CellTy P t2] {x y : Operand} {kk : IntKind} {i : Int} {j : Nat} {d1 d2 d3 lo : Nat} {e' : TypeId} {v u : Value} {ts : List Tri} {tr : Tri} {ty1 ty2 ty3 : TypeId} {pos1 pos2 pos3 : String} {af1 af2 af3 : Array Edge} {x2 x3 : Operand} {rest : List Oper}
    (hs : Own3 lo e' w v ts) (ha : ts[j]? = some tr) (hf : tr.cells[off]? = some u)
    (k : ∀ p q, WL P N ops Q rest ((d3, u) :: (d2, q) :: (d1, p) :: l) w) (hx : ev l x = some v := by rfl) (hy : ev l y = some (.int kk i) := by rfl) (hij : i = (j : Int) := by first | rfl | omega) (h2 : x2 = .tmp d1 := by rfl) (h3 : x3 = .tmp d2 := by rfl)
    (hd1 : Nat.blt d1 N = true := by rfl) (hd2 : Nat.blt d2 N = true := by rfl) (hd3 : Nat.blt d3 N = true := by rfl) :
    WL P N ops Q (⟨some d1, .indexAddr t x y, ty1, pos1, af1, none⟩ :: ⟨some d2, .fieldAddr s x2 f, ty2, pos2, af2, none⟩ :: ⟨some d3, .load t2 x3, ty3, pos3, af3, none⟩ :: rest) l w := by
  subst h2 h3
  obtain ⟨g, c, rfl, _, _, hcell, _, _⟩ := hs.place ha
  have hlt := (List.getElem?_eq_some_iff.1 ha).1
  subst hij
  refine WL.step (o_ix3 hx hy (by omega) (by omega) ?_ rfl hd1)
  rw [Nat.zero_add, Int.toNat_natCast]
  refine WL.step (o_field (look_cons_self _ _ _) ?_ rfl hd2)
  have e1 : (⟨g, j * 3, none⟩ : Addr).add off = ⟨g, j * 3 + off, none⟩ := by unfold Addr.add; split <;> simp_all
  rw [e1]
  exact WL.step (o_load (look_cons_self _ _ _) (hcell off u hf) (k _ _) rfl hd3)
/-- x[i].f = u of a slice of structs: the place, the field, the store. -/
theorem WL.ixfst3 {t t2 s e : TypeId} {z : Array Value} {bytes f off : Nat} [SliceTy3 P t e z bytes] [FieldTy P s f off] [CellTy P t2] {x y yv : Operand} {kk : IntKind} {i : Int} {j : Nat} {d1 d2 lo : Nat} {e' : TypeId} {v u : Value} {ts : List Tri} {tr : Tri} {ty1 ty2 ty3 : TypeId} {pos1 pos2 pos3 : String} {af1 af2 af3 : Array Edge} {x2 x3 : Operand} {rest : List Oper}
    (hs : Own3 lo e' w v ts) (ha : ts[j]? = some tr) (hoff : off < 3)
    (k : ∀ p q g w1, v.ownBlock = some g → Own3 lo e' w1 v (ts.set j (tr.put off u)) → But g w w1 → WL P N ops Q rest ((d2, q) :: (d1, p) :: l) w1)
    (hv : ∀ p q, ev ((d2, q) :: (d1, p) :: l) yv = some u := by intro _ _; rfl) (hu : u.oneCell' = true := by rfl) (hx : ev l x = some v := by rfl) (hy : ev l y = some (.int kk i) := by rfl) (hij : i = (j : Int) := by first | rfl | omega) (h2 : x2 = .tmp d1 := by rfl) (h3 : x3 = .tmp d2 := by rfl)
    (hd1 : Nat.blt d1 N = true := by rfl) (hd2 : Nat.blt d2 N = true := by rfl) :
    WL P N ops Q (⟨some d1, .indexAddr t x y, ty1, pos1, af1, none⟩ :: ⟨some d2, .fieldAddr s x2 f, ty2, pos2, af2, none⟩ :: ⟨none, .store t2 x3 yv, ty3, pos3, af3, none⟩ :: rest) l w := by
  subst h2 h3
  obtain ⟨g, c, rfl, _, _, hcell, hfr, hob⟩ := hs.place ha
  have hlt := (List.getElem?_eq_some_iff.1 ha).1
  subst hij
  refine WL.step (o_ix3 hx hy (by omega) (by omega) ?_ rfl hd1)
  rw [Nat.zero_add, Int.toNat_natCast]
  refine WL.step (o_field (look_cons_self _ _ _) ?_ rfl hd2)
  have e1 : (⟨g, j * 3, none⟩ : Addr).add off = ⟨g, j * 3 + off, none⟩ := by unfold Addr.add; split <;> simp_all
  rw [e1]
  have hc : tr.cells[off]? = some (tr.cells[off]'(by simp [Tri.cells]; omega)) := List.getElem?_eq_getElem _
  exact WL.step (o_store (look_cons_self _ _ _) (hv _ _) (hcell off _ hc) (hfr _) (k _ _ g _ hob (hs.setCell ha hoff u) (But.setCell w g _ u)) hu rfl)
end
end Go.Fw
