/- A tableau in a variable whose rows grow and change: what stays true. -/
import Derived.Test.YthepgmajeljdhaaGreatD4
set_option maxRecDepth 8000
namespace Go.Fw
open Go Go.RowKit Go.Rk
theorem OwI.but {e tt : TypeId} {lo hi b : Nat} {w w' : World} {v : Value} {xs : List Int} {cs : List Value} (h : OwI e lo hi w v xs) (hb : Blk w b cs tt) (hne : e ≠ tt) (hB : But b w w') : OwI e lo hi w' v xs :=
  ⟨h.own.keep fun k hk => hB.block k (h.own.neB hb hne hk), h.lt, by rw [hB.size]; exact h.hi_le⟩
theorem OwSSv.but {e e2 tt : TypeId} {lo hi b : Nat} {w w' : World} {v : Value} {vs : List Value} {xss : List (List Int)} {cs : List Value} (h : OwSSv e e2 lo hi w v vs xss) (hb : Blk w b cs tt) (hne : e ≠ tt) (hne2 : e2 ≠ tt) (hB : But b w w') : OwSSv e e2 lo hi w' v vs xss :=
  ⟨h.own.keep fun k hk => hB.block k (h.own.neB hb hne hk), h.lt, by rw [hB.size]; exact h.hi_le, h.len, fun i u xs hu hx => (h.rows i u xs hu hx).but hb hne2 hB, h.apart, h.ne⟩
/-- The variable b5 holds a tableau that is owned; b4 is the result's cell. -/
structure LT (sb b4 b5 : Nat) (w0 w : World) (va vb : Value) (vs : List Value) (x : TabD) : Prop where
  size0 : w0.heap.size = b4
  low : sb < b4
  b45 : b4 < b5
  res : Blk w b4 [.slice none 0 0, .slice none 0 0] 27
  var : Blk w b5 [va, vb] 27
  rows : OwSSv 25 2 (b4 + 1) w.heap.size w va vs x.1
  last : OwI 2 (b4 + 1) w.heap.size w vb x.2
  apart : ∀ (i : Nat) u, vs[i]? = some u → ∀ k, u.ownBlock = some k → vb.ownBlock ≠ some k
  drew : Drew sb w0 w
section
variable {sb b4 b5 : Nat} {w0 w w6 w7 w8 : World} {va vb v6 v7 u : Value} {vs : List Value} {x : TabD} {ys zs : List Int}
theorem LT.b5lt (h : LT sb b4 b5 w0 w va vb vs x) : b5 < w.heap.size := h.var.lt
theorem LT.move (h : LT sb b4 b5 w0 w va vb vs x) (hc : Chg sb (sb + 1) w w6) (hd : Drew sb w0 w6) : LT sb b4 b5 w0 w6 va vb vs x := by
  have h1 := h.low
  have h2 := h.b45
  exact ⟨h.size0, h.low, h.b45, h.res.chg hc (by omega), h.var.chg hc (by omega), (h.rows.chg hc (by omega)).wide (Nat.le_refl _) hc.size (Nat.le_refl _), (h.last.chg hc (by omega)).wide (Nat.le_refl _) hc.size (Nat.le_refl _), h.apart, hd⟩
theorem LT.draw (h : LT sb b4 b5 w0 w va vb vs x) (hd : Drew sb w w6) : LT sb b4 b5 w0 w6 va vb vs x := h.move hd.chg (h.drew.trans hd)
theorem LT.below (h : LT sb b4 b5 w0 w va vb vs x) (hb : Below w.heap.size w w6) : LT sb b4 b5 w0 w6 va vb vs x := by
  have h1 := h.low
  have h2 := h.b45
  have h3 := h.size0
  have h4 := h.b5lt
  have hc : Chg w.heap.size w.heap.size w w6 := Below.chg hb (Nat.le_refl _)
  exact ⟨h.size0, h.low, h.b45, h.res.below hb (by omega), h.var.below hb (by omega), (h.rows.chg hc (Or.inl (Nat.le_refl _))).wide (Nat.le_refl _) hb.size (Nat.le_refl _), (h.last.chg hc (Or.inl (Nat.le_refl _))).wide (Nat.le_refl _) hb.size (Nat.le_refl _), h.apart, h.drew.thenBelow (Below.mono hb (by omega)) (by omega)⟩
theorem LT.still (h : LT sb b4 b5 w0 w va vb vs x) (hs : Still w w6) : LT sb b4 b5 w0 w6 va vb vs x := h.below (hs.below _)
/-- Another last list. -/
theorem LT.putLast (h : LT sb b4 b5 w0 w va vb vs x) (o6 : Own (b4 + 1) 2 w6 v6 (Ints ys)) (hbl : Below (b4 + 1) w w6) (f6 : ∀ k, k < w.heap.size → vb.ownBlock ≠ some k → w6.heap[k]? = w.heap[k]?)
    (k6 : ∀ k, v6.ownBlock = some k → vb.ownBlock = some k ∨ w.heap.size ≤ k) (hb7 : Blk w7 b5 [va, v6] 27) (hbut : But b5 w6 w7) : LT sb b4 b5 w0 w7 va v6 vs (x.1, ys) := by
  have h1 := h.low
  have h2 := h.b45
  have h3 := h.size0
  have h4 := h.b5lt
  have z6 := hbl.size
  have v5 : Blk w6 b5 [va, vb] 27 := h.var.keep (f6 b5 h.b5lt (h.last.own.outB h.var (by decide)))
  have v4 : Blk w6 b4 [.slice none 0 0, .slice none 0 0] 27 := h.res.keep (f6 b4 h.res.lt (h.last.own.outB h.res (by decide)))
  have r6 := h.rows.keepOut h.last.own (fun i u hu k hk e => h.apart i u hu k hk e) z6 f6
  have r7 := (r6.but v5 (by decide) (by decide) hbut).wide (Nat.le_refl _) (show w.heap.size ≤ w7.heap.size by rw [hbut.size]; exact z6) (Nat.le_refl _)
  have o7 : Own (b4 + 1) 2 w7 v6 (Ints ys) := o6.keep fun k hk => hbut.block k (o6.neB v5 (by decide) hk)
  refine ⟨h.size0, h.low, h.b45, v4.keep (hbut.block b4 (by omega)), hb7, r7, ⟨o7, fun k hk => (o7.block k hk).2, Nat.le_refl _⟩, fun i u hu k hk e => ?_, (h.drew.thenBelow (Below.mono hbl (by omega)) (by omega)).thenBut hbut (by omega) (by omega)⟩
  rcases k6 k e with e2 | e2
  · exact h.apart i u hu k hk e2
  · obtain ⟨xs, hx⟩ : ∃ xs, x.1[i]? = some xs := ⟨_, List.getElem?_eq_getElem (by rw [← h.rows.len]; exact (List.getElem?_eq_some_iff.1 hu).1)⟩
    have := (h.rows.rows i u xs hu hx).lt k hk
    omega
/-- A row that grows. -/
theorem LT.pushRow (h : LT sb b4 b5 w0 w va vb vs x) {j : Nat} (hu : vs[j]? = some u) (hx : x.1[j]? = some ys) (o7 : Own (b4 + 1) 2 w7 v7 (Ints zs)) (bl7 : Below (b4 + 1) w w7) (f7 : ∀ k, k < w.heap.size → u.ownBlock ≠ some k → w7.heap[k]? = w.heap[k]?)
    (k7 : ∀ k, v7.ownBlock = some k → u.ownBlock = some k ∨ w.heap.size ≤ k) (o8 : Own (b4 + 1) 25 w8 va (vs.set j v7)) (bl8 : Below (b4 + 1) w7 w8) (z8 : w8.heap.size = w7.heap.size) (f8 : ∀ k, va.ownBlock ≠ some k → w8.heap[k]? = w7.heap[k]?) :
    LT sb b4 b5 w0 w8 va vb (vs.set j v7) (x.1.set j zs, x.2) := by
  have h1 := h.low
  have h2 := h.b45
  have h3 := h.size0
  have h4 := h.b5lt
  have z7 := bl7.size
  have hru := h.rows.rows j u ys hu hx
  have hju : j < vs.length := (List.getElem?_eq_some_iff.1 hu).1
  have keep : ∀ b cs, Blk w b cs 27 → Blk w8 b cs 27 := fun b cs hb => hb.keep (by
    rw [f8 b (h.rows.own.outB hb (by decide)), f7 b hb.lt (hru.own.outB hb (by decide))])
  have rN := h.rows.pushRow (zs := zs) hu hx o7 f7 z7 k7 o8 f8 z8
  have oL : Own (b4 + 1) 2 w8 vb (Ints x.2) := h.last.own.keep fun k hk => by
    rw [f8 k (fun e => h.rows.own.ne_block h.last.own h.rows.ne e hk), f7 k (h.last.own.block k hk).2 (fun e => h.apart j u hu k e hk)]
  refine ⟨h.size0, h.low, h.b45, keep _ _ h.res, keep _ _ h.var, rN, ⟨oL, fun k hk => (oL.block k hk).2, Nat.le_refl _⟩, fun i u' hu' k hk e => ?_, h.drew.thenBelow (Below.mono (bl7.trans bl8) (by omega)) (by omega)⟩
  by_cases hij : j = i
  · subst hij
    rw [List.getElem?_set_self hju] at hu'
    simp only [Option.some.injEq] at hu'
    subst hu'
    rcases k7 k hk with e2 | e2
    · exact h.apart j u hu k e2 e
    · have := h.last.lt k e; omega
  · rw [List.getElem?_set_ne hij] at hu'
    exact h.apart i u' hu' k hk e
/-- A row with another number. -/
theorem LT.setRow (h : LT sb b4 b5 w0 w va vb vs x) {j : Nat} (hu : vs[j]? = some u) (hx : x.1[j]? = some ys) (o8 : Own (b4 + 1) 2 w8 u (Ints zs)) (bl8 : Below (b4 + 1) w w8) (z8 : w8.heap.size = w.heap.size) (f8 : ∀ k, u.ownBlock ≠ some k → w8.heap[k]? = w.heap[k]?) :
    LT sb b4 b5 w0 w8 va vb vs (x.1.set j zs, x.2) := by
  have h1 := h.low
  have h2 := h.b45
  have h3 := h.size0
  have hru := h.rows.rows j u ys hu hx
  have keep : ∀ b cs, Blk w b cs 27 → Blk w8 b cs 27 := fun b cs hb => hb.keep (f8 b (hru.own.outB hb (by decide)))
  have rN := h.rows.setRow hu o8 z8 f8
  have oL : Own (b4 + 1) 2 w8 vb (Ints x.2) := h.last.own.keep fun k hk => f8 k (fun e => h.apart j u hu k e hk)
  exact ⟨h.size0, h.low, h.b45, keep _ _ h.res, keep _ _ h.var, rN.wide (Nat.le_refl _) (by rw [z8]; exact Nat.le_refl _) (Nat.le_refl _), ⟨oL, fun k hk => (oL.block k hk).2, Nat.le_refl _⟩, h.apart, h.drew.thenBelow (Below.mono bl8 (by omega)) (by omega)⟩
/-- A row more. -/
theorem LT.addRow (h : LT sb b4 b5 w0 w va vb vs x) (hc : Chg sb (sb + 1) w w6) (hd : Drew sb w0 w6) (hr : OwI 2 w.heap.size w6.heap.size w6 u ys) (o7 : Own (b4 + 1) 25 w7 v7 (vs ++ [u])) (bl7 : Below (b4 + 1) w6 w7)
    (f7 : ∀ k, k < w6.heap.size → va.ownBlock ≠ some k → w7.heap[k]? = w6.heap[k]?) (hb8 : Blk w8 b5 [v7, vb] 27) (hbut : But b5 w7 w8) : LT sb b4 b5 w0 w8 v7 vb (vs ++ [u]) (x.1 ++ [ys], x.2) := by
  have h1 := h.low
  have h2 := h.b45
  have h3 := h.size0
  have h4 := h.b5lt
  have z6 := hc.size
  have z7 := bl7.size
  have hm := h.move hc hd
  have r6 := h.rows.chg hc (by omega)
  have keep : ∀ b cs, Blk w6 b cs 27 → Blk w7 b cs 27 := fun b cs hb => hb.keep (f7 b hb.lt (hm.rows.own.outB hb (by decide)))
  have r7 := r6.snoc hr (Nat.le_refl _) (by omega) o7 z7 f7
  have v5 := keep _ _ hm.var
  have r8 := (r7.but v5 (by decide) (by decide) hbut).wide (Nat.le_refl _) (show w7.heap.size ≤ w8.heap.size by rw [hbut.size]; exact Nat.le_refl _) (Nat.le_refl _)
  have oL7 : Own (b4 + 1) 2 w7 vb (Ints x.2) := hm.last.own.keep fun k hk => f7 k (hm.last.own.block k hk).2 (fun e => hm.rows.own.ne_block hm.last.own hm.rows.ne e hk)
  have oL : Own (b4 + 1) 2 w8 vb (Ints x.2) := oL7.keep fun k hk => hbut.block k (oL7.neB v5 (by decide) hk)
  refine ⟨h.size0, h.low, h.b45, (keep _ _ hm.res).keep (hbut.block b4 (by omega)), hb8, r8, ⟨oL, fun k hk => (oL.block k hk).2, Nat.le_refl _⟩, fun i u' hu' k hk e => ?_, (hd.thenBelow (Below.mono bl7 (by omega)) (by omega)).thenBut hbut (by omega) (by omega)⟩
  rw [List.getElem?_append] at hu'
  split at hu'
  · exact h.apart i u' hu' k hk e
  · rename_i hi
    rw [List.getElem?_singleton] at hu'
    split at hu'
    · simp only [Option.some.injEq] at hu'
      subst hu'
      have := (hr.own.block k hk).1
      have := h.last.lt k e
      omega
    · cases hu'
/-- Another tableau. -/
theorem LT.put (h : LT sb b4 b5 w0 w va vb vs x) {y : TabD} {va' vb' : Value} {lo : Nat} (hlo : b4 + 1 ≤ lo) (hT : OwT 25 2 lo w.heap.size w (.agg #[va', vb']) y) (hb8 : Blk w8 b5 [va', vb'] 27) (hbut : But b5 w w8) : ∃ vs', LT sb b4 b5 w0 w8 va' vb' vs' y := by
  have h1 := h.low
  have h2 := h.b45
  have h3 := h.size0
  obtain ⟨va2, vb2, vs', he, hO⟩ := hT
  have e2 : [va', vb'] = [va2, vb2] := by
    simp only [Value.agg.injEq] at he
    exact congrArg Array.toList he
  simp only [List.cons.injEq, and_true] at e2
  obtain ⟨rfl, rfl⟩ := e2
  have e8 : w8.heap.size = w.heap.size := hbut.size
  exact ⟨vs', h.size0, h.low, h.b45, h.res.keep (hbut.block b4 (by omega)), hb8, (hO.rows.but h.var (by decide) (by decide) hbut).wide (by omega) (by omega) (Nat.le_refl _), (hO.last.but h.var (by decide) hbut).wide (by omega) (by omega) (Nat.le_refl _), hO.apart, h.drew.thenBut hbut (by omega) (by omega)⟩
end
section
variable {P : Program} {N : Nat} {Q : Exit → Fr → World → Prop} {l : Fr} {w : World}
theorem WP.midB3 {c : Code} {id : Nat} {K : Fr → World → Prop} (M : Fr → World → Prop) (hx : WP P N c (inBlockE id (thenE M Q)) l w) (hk : ∀ l w, M l w → K l w) : WP P N c (inBlockE id (thenE K Q)) l w := fun a ha => by
  refine wp_mono (hx a ha) ?_
  intro e a' w' he
  cases e with
  | normal => obtain ⟨l', hl, hK⟩ := he; exact ⟨l', hl, hk _ _ hK⟩
  | exit id' =>
    obtain ⟨l', hl, hK⟩ := he
    simp only [inBlockE] at hK
    refine ⟨l', hl, ?_⟩
    simp only [inBlockE]
    split
    · rename_i e; rw [if_pos e] at hK; exact hk _ _ hK
    · rename_i e; rw [if_neg e] at hK; exact hK
  | goto n => exact he
  | ret => exact he
  | panic c => exact he
  | outgrown => exact he
end
end Go.Fw
