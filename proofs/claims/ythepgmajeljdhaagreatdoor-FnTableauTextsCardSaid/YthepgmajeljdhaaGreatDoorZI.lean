/- A tableau in a variable, read row by row: what stays true. -/
import Derived.Test.YthepgmajeljdhaaGreatDoorZH
import Derived.Test.YthepgmajeljdhaaGreatDoorT1
set_option maxRecDepth 8000
namespace Go.Fw
open Go Go.RowKit Go.Rk
theorem Own.neV {lo b : Nat} {e tt : TypeId} {w : World} {v : Value} {us cs : List Value} (h : Own lo e w v us) (hb : Blk w b cs tt) (hne : e ≠ tt) {k : Nat} (hk : v.ownBlock = some k) : k ≠ b := fun he => by
  obtain ⟨cur, hc⟩ := h.elem hk
  subst he
  unfold Blk at hb
  rw [hc] at hb
  simp only [Option.some.injEq, Obj.cells.injEq] at hb
  exact hne hb.2.1
theorem Own.outV {lo b : Nat} {e tt : TypeId} {w : World} {v : Value} {us cs : List Value} (h : Own lo e w v us) (hb : Blk w b cs tt) (hne : e ≠ tt) : v.ownBlock ≠ some b := fun he => h.neV hb hne he rfl
theorem OwI.butV {e tt : TypeId} {lo hi b : Nat} {w w' : World} {v : Value} {xs : List Int} {cs : List Value} (h : OwI e lo hi w v xs) (hb : Blk w b cs tt) (hne : e ≠ tt) (hB : But b w w') : OwI e lo hi w' v xs :=
  ⟨h.own.keep fun k hk => hB.block k (h.own.neV hb hne hk), h.lt, by rw [hB.size]; exact h.hi_le⟩
theorem OwSSv.butV {e e2 tt : TypeId} {lo hi b : Nat} {w w' : World} {v : Value} {vs : List Value} {xss : List (List Int)} {cs : List Value} (h : OwSSv e e2 lo hi w v vs xss) (hb : Blk w b cs tt) (hne : e ≠ tt) (hne2 : e2 ≠ tt) (hB : But b w w') : OwSSv e e2 lo hi w' v vs xss :=
  ⟨h.own.keep fun k hk => hB.block k (h.own.neV hb hne hk), h.lt, by rw [hB.size]; exact h.hi_le, h.len, fun i u xs hu hx => (h.rows i u xs hu hx).butV hb hne2 hB, h.apart, h.ne⟩
theorem OwSSv.nilV {e e2 : TypeId} {lo hi : Nat} {w : World} (hne : e ≠ e2) (hz : hi ≤ w.heap.size) : OwSSv e e2 lo hi w (.slice none 0 0) [] [] :=
  ⟨Own.nil _ _ _, fun k hk => by simp [Value.ownBlock] at hk, hz, rfl, fun i u xs hu => by simp at hu, fun i j u u' _ hu => by simp at hu, hne⟩
/-- The variable b holds a tableau that is owned; r is the result's cell. -/
structure PT (r b : Nat) (w0 w : World) (va vb : Value) (vs : List Value) (x : TabD) : Prop where
  size0 : w0.heap.size = r
  rb : r < b
  res : Blk w r [.slice none 0 0, .slice none 0 0] 27
  var : Blk w b [va, vb] 27
  rows : OwSSv 25 2 (r + 1) w.heap.size w va vs x.1
  last : OwI 2 (r + 1) w.heap.size w vb x.2
  apart : ∀ (i : Nat) u, vs[i]? = some u → ∀ k, u.ownBlock = some k → vb.ownBlock ≠ some k
  bel : Below w0.heap.size w0 w
section
variable {r b : Nat} {w0 w w6 w7 w8 : World} {va vb v7 u : Value} {vs : List Value} {x : TabD} {ys zs : List Int}
theorem PT.blt (h : PT r b w0 w va vb vs x) : b < w.heap.size := h.var.lt
theorem PT.below (h : PT r b w0 w va vb vs x) (hb : Below w.heap.size w w6) : PT r b w0 w6 va vb vs x := by
  have h3 := h.size0
  have h4 := h.blt
  have h5 := h.rb
  have hc : Chg w.heap.size w.heap.size w w6 := ⟨hb.os, hb.tape, hb.output, hb.size, fun k hk _ => hb.block k hk⟩
  exact ⟨h.size0, h.rb, h.res.below hb (by omega), h.var.below hb (by omega), (h.rows.chg hc (Or.inl (Nat.le_refl _))).wide (Nat.le_refl _) hb.size (Nat.le_refl _), (h.last.chg hc (Or.inl (Nat.le_refl _))).wide (Nat.le_refl _) hb.size (Nat.le_refl _), h.apart, h.bel.trans (Below.mono hb (by omega))⟩
theorem PT.still (h : PT r b w0 w va vb vs x) (hs : Still w w6) : PT r b w0 w6 va vb vs x := h.below (hs.below _)
/-- A row more. -/
theorem PT.addRow (hm : PT r b w0 w6 va vb vs x) {s : Nat} (hs : w.heap.size ≤ s) (hw : PT r b w0 w va vb vs x) (hr : OwI 2 s w6.heap.size w6 u ys) (h6 : w.heap.size ≤ w6.heap.size) (o7 : Own (r + 1) 25 w7 v7 (vs ++ [u])) (bl7 : Below (r + 1) w6 w7)
    (f7 : ∀ k, k < w6.heap.size → va.ownBlock ≠ some k → w7.heap[k]? = w6.heap[k]?) (hb8 : Blk w8 b [v7, vb] 27) (hbut : But b w7 w8) (r6 : OwSSv 25 2 (r + 1) w.heap.size w6 va vs x.1) : PT r b w0 w8 v7 vb (vs ++ [u]) (x.1 ++ [ys], x.2) := by
  have h2 := hm.rb
  have h3 := hm.size0
  have h4 := hw.blt
  have z7 := bl7.size
  have keep : ∀ b cs, Blk w6 b cs 27 → Blk w7 b cs 27 := fun b cs hb => hb.keep (f7 b hb.lt (hm.rows.own.outV hb (by decide)))
  have r7 := r6.snoc hr hs (by omega) o7 z7 f7
  have v5 := keep _ _ hm.var
  have r8 := (r7.butV v5 (by decide) (by decide) hbut).wide (Nat.le_refl _) (show w7.heap.size ≤ w8.heap.size by rw [hbut.size]; exact Nat.le_refl _) (Nat.le_refl _)
  have oL7 : Own (r + 1) 2 w7 vb (Ints x.2) := hm.last.own.keep fun k hk => f7 k (hm.last.own.block k hk).2 (fun e => hm.rows.own.ne_block hm.last.own hm.rows.ne e hk)
  have oL : Own (r + 1) 2 w8 vb (Ints x.2) := oL7.keep fun k hk => hbut.block k (oL7.neV v5 (by decide) hk)
  refine ⟨h3, h2, (keep _ _ hm.res).keep (hbut.block r (by omega)), hb8, r8, ⟨oL, fun k hk => (oL.block k hk).2, Nat.le_refl _⟩, fun i u' hu' k hk e => ?_, hm.bel.trans ((Below.mono bl7 (by omega)).trans (hbut.below (by omega)))⟩
  rw [List.getElem?_append] at hu'
  split at hu'
  · exact hm.apart i u' hu' k hk e
  · rename_i hi
    rw [List.getElem?_singleton] at hu'
    split at hu'
    · simp only [Option.some.injEq] at hu'
      subst hu'
      have := (hr.own.block k hk).1
      have := hw.last.lt k e
      omega
    · cases hu'
theorem PT.tab (h : PT r b w0 w va vb vs x) : OwT 25 2 (r + 1) w.heap.size w (.agg #[va, vb]) x := ⟨va, vb, vs, rfl, h.rows, h.last, h.apart⟩
theorem PT.it (h : PT r b w0 w va vb vs x) : IT (r + 1) w.heap.size w (.agg #[va, vb]) x := h.tab.rd
/-- The tableau becomes the result. -/
theorem PT.done (h : PT r b w0 w va vb vs x) (hbut : But r w w8) : ResT 25 2 w0 (.tuple #[.agg #[va, vb], .int .i64 0]) w8 (x, 0) := by
  have h3 := h.size0
  refine ⟨_, rfl, ?_, Chg.of_below (h.bel.trans (hbut.below (by omega)))⟩
  have e8 : w8.heap.size = w.heap.size := hbut.size
  exact ⟨va, vb, vs, rfl, (h.rows.butV h.res (by decide) (by decide) hbut).wide (by omega) (by omega) (Nat.le_refl _), (h.last.butV h.res (by decide) hbut).wide (by omega) (by omega) (Nat.le_refl _), h.apart⟩
end
theorem ResT.bad {w w' : World} (hb : Below w.heap.size w w') (c : Int) : ResT 25 2 w (.tuple #[.agg #[.slice none 0 0, .slice none 0 0], .int .i64 c]) w' (([], []), c) :=
  ⟨_, rfl, ⟨_, _, [], rfl, OwSSv.nilV (by decide) (Nat.le_refl _), ⟨Own.nil _ _ _, fun k hk => by simp [Value.ownBlock] at hk, Nat.le_refl _⟩, fun i u hu => by simp at hu⟩, Chg.of_below hb⟩
end Go.Fw
