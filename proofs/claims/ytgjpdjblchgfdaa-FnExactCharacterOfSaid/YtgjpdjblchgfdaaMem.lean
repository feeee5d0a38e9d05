/- Data in memory: slices that are read, slices that the call owns, blocks of a variable; and the operations that make or write them. -/
import Derived.Test.YtgjpdjblchgfdaaOp
namespace Go.Fw
open Go Go.RowKit

/-- The blocks from lo on, below hi, are as they were. -/
def Same (lo hi : Nat) (w w' : World) : Prop := ∀ k, lo ≤ k → k < hi → w'.heap[k]? = w.heap[k]?

theorem Same.trans {lo hi : Nat} {a b c : World} (h : Same lo hi a b) (h' : Same lo hi b c) : Same lo hi a c := fun k h1 h2 => (h' k h1 h2).trans (h k h1 h2)
theorem Same.mono {lo hi lo' hi' : Nat} {a b : World} (h : Same lo hi a b) (h1 : lo ≤ lo') (h2 : hi' ≤ hi) : Same lo' hi' a b := fun k a1 a2 => h k (by omega) (by omega)
theorem Same.of_below {B lo hi : Nat} {w w' : World} (h : Below B w w') (hB : hi ≤ B) : Same lo hi w w' := fun k _ h2 => h.block k (by omega)

/-- Nothing has turned but the count of draws. -/
structure Still (w w' : World) : Prop where
  heap : w'.heap = w.heap
  os : w'.os = w.os
  tape : w'.tape = w.tape
  output : w'.output = w.output

theorem Still.refl (w : World) : Still w w := ⟨rfl, rfl, rfl, rfl⟩
theorem Still.trans {a b c : World} (h : Still a b) (h' : Still b c) : Still a c := ⟨h'.heap.trans h.heap, h'.os.trans h.os, h'.tape.trans h.tape, h'.output.trans h.output⟩
theorem Still.drew (w : World) : Still w w.drew := ⟨rfl, rfl, rfl, rfl⟩
theorem Still.below {w w' : World} (h : Still w w') (B : Nat) : Below B w w' := ⟨h.os, h.tape, h.output, by rw [h.heap]; exact Nat.le_refl _, fun k _ => by rw [h.heap]⟩
theorem Still.same {w w' : World} (h : Still w w') (lo hi : Nat) : Same lo hi w w' := fun k _ _ => by rw [h.heap]
theorem Still.size {w w' : World} (h : Still w w') : w'.heap.size = w.heap.size := by rw [h.heap]

/-- A slice whose elements are of one cell each: element i is what R says of xs[i]. Its memory lies in the blocks from lo on, below hi. -/
def SL {α : Type} (R : Nat → Nat → World → Value → α → Prop) (lo hi : Nat) (w : World) (v : Value) (xs : List α) : Prop :=
  hi ≤ w.heap.size ∧ ∃ a c, v = .slice a xs.length c ∧ xs.length ≤ maxLen ∧ (xs.length ≤ c ∧ (a = none → c = 0)) ∧
    ∀ (i : Nat) (x : α), xs[i]? = some x → ∃ b o u, a = some ⟨b, o, none⟩ ∧ lo ≤ b ∧ b < hi ∧ w.cell? ⟨b, o + i, none⟩ = some u ∧ R lo hi w u x

/-- R hangs on the blocks from lo on, below hi, alone. -/
def Stable {α : Type} (R : Nat → Nat → World → Value → α → Prop) : Prop :=
  (∀ lo hi w w' u x, Same lo hi w w' → hi ≤ w'.heap.size → R lo hi w u x → R lo hi w' u x) ∧
  (∀ lo hi lo' hi' w u x, lo' ≤ lo → hi ≤ hi' → hi' ≤ w.heap.size → R lo hi w u x → R lo' hi' w u x)

theorem SL.stable {α : Type} {R : Nat → Nat → World → Value → α → Prop} (hR : Stable R) : Stable (SL R) := by
  refine ⟨fun lo hi w w' u xs hs hz h => ?_, fun lo hi lo' hi' w u xs h1 h2 hz h => ?_⟩
  · obtain ⟨_, a, c, rfl, hl, hn, h⟩ := h
    refine ⟨hz, a, c, rfl, hl, hn, fun i x hx => ?_⟩
    obtain ⟨b, o, u, ha, hb1, hb2, hc, hr⟩ := h i x hx
    exact ⟨b, o, u, ha, hb1, hb2, by rw [World.cell?_of_block (hs b hb1 hb2)]; exact hc, hR.1 _ _ _ _ _ _ hs hz hr⟩
  · obtain ⟨_, a, c, rfl, hl, hn, h⟩ := h
    refine ⟨hz, a, c, rfl, hl, hn, fun i x hx => ?_⟩
    obtain ⟨b, o, u, ha, hb1, hb2, hc, hr⟩ := h i x hx
    exact ⟨b, o, u, ha, by omega, by omega, hc, hR.2 _ _ _ _ _ _ _ h1 h2 hz hr⟩

def RI (_ _ : Nat) (_ : World) (u : Value) (x : Int) : Prop := u = .int .i64 x
def RB (_ _ : Nat) (_ : World) (u : Value) (x : Bool) : Prop := u = .bool x
def RS (_ _ : Nat) (_ : World) (u : Value) (x : ByteArray) : Prop := u = .string x ∧ x.size ≤ maxLen

theorem RI.stable : Stable RI := ⟨fun _ _ _ _ _ _ _ _ h => h, fun _ _ _ _ _ _ _ _ _ _ h => h⟩
theorem RB.stable : Stable RB := ⟨fun _ _ _ _ _ _ _ _ h => h, fun _ _ _ _ _ _ _ _ _ _ h => h⟩
theorem RS.stable : Stable RS := ⟨fun _ _ _ _ _ _ _ _ h => h, fun _ _ _ _ _ _ _ _ _ _ h => h⟩

/-- A slice of integers; a slice of such slices. -/
abbrev IS := SL RI
abbrev ISS := SL IS

theorem IS.stable : Stable IS := SL.stable RI.stable
theorem ISS.stable : Stable ISS := SL.stable IS.stable

section
variable {α : Type} {R : Nat → Nat → World → Value → α → Prop} {lo hi : Nat} {w w' : World} {v : Value} {xs : List α}

theorem SL.same (hR : Stable R) (h : SL R lo hi w v xs) (hs : Same lo hi w w') (hz : hi ≤ w'.heap.size) : SL R lo hi w' v xs := (SL.stable hR).1 _ _ _ _ _ _ hs hz h
theorem SL.wide (hR : Stable R) (h : SL R lo hi w v xs) {lo' hi' : Nat} (h1 : lo' ≤ lo) (h2 : hi ≤ hi') (hz : hi' ≤ w.heap.size) : SL R lo' hi' w v xs := (SL.stable hR).2 _ _ _ _ _ _ _ h1 h2 hz h
/-- Behind a call that leaves the memory below B as it was. -/
theorem SL.below (hR : Stable R) (h : SL R lo hi w v xs) {B : Nat} (hb : Below B w w') (hB : hi ≤ B) : SL R lo hi w' v xs :=
  SL.same hR h (Same.of_below hb hB) (Nat.le_trans h.1 hb.size)
theorem SL.still (hR : Stable R) (h : SL R lo hi w v xs) (hs : Still w w') : SL R lo hi w' v xs := SL.same hR h (hs.same lo hi) (by rw [hs.size]; exact h.1)
theorem SL.len (h : SL R lo hi w v xs) : xs.length ≤ maxLen := by obtain ⟨_, a, c, _, h, _⟩ := h; exact h
theorem SL.shape (h : SL R lo hi w v xs) : ∃ a c, v = .slice a xs.length c := by obtain ⟨_, a, c, h, _⟩ := h; exact ⟨a, c, h⟩
theorem SL.shapeC (h : SL R lo hi w v xs) : ∃ a c, v = .slice a xs.length c ∧ xs.length ≤ c := by obtain ⟨_, a, c, h, _, h2, _⟩ := h; exact ⟨a, c, h, h2.1⟩
/-- The first i of it. -/
theorem SL.take {a : Option Addr} {n c i : Nat} (h : SL R lo hi w (.slice a n c) xs) (hi' : i ≤ xs.length) : SL R lo hi w (.slice a i c) (xs.take i) := by
  obtain ⟨hz, a', c', hv, hl, hn, h⟩ := h
  simp only [Value.slice.injEq] at hv
  obtain ⟨rfl, rfl, rfl⟩ := hv
  have hlen : (xs.take i).length = i := by rw [List.length_take]; omega
  refine ⟨hz, a, c, by rw [hlen], by omega, ⟨by omega, hn.2⟩, fun j x hx => ?_⟩
  rw [List.getElem?_take] at hx
  split at hx
  · exact h j x hx
  · cases hx
theorem SL.hi_le (h : SL R lo hi w v xs) : hi ≤ w.heap.size := h.1
theorem SL.nil (w : World) (hz : hi ≤ w.heap.size) : SL R lo hi w (.slice none 0 0) [] := ⟨hz, none, 0, rfl, Nat.zero_le _, ⟨Nat.le_refl _, fun _ => rfl⟩, fun i x h => by simp at h⟩
end

/-- A slice that the call owns: it is nil, or lies at the head of an unfrozen block from lo on. -/
def Own (lo : Nat) (e : TypeId) (w : World) (v : Value) (us : List Value) : Prop := w.ownsRow lo e 1 v us.length us

def Ints (xs : List Int) : List Value := xs.map (Value.int .i64)
theorem Ints_append (xs ys : List Int) : Ints (xs ++ ys) = Ints xs ++ Ints ys := by simp [Ints]
theorem Ints_length (xs : List Int) : (Ints xs).length = xs.length := by simp [Ints]
theorem Ints_get (xs : List Int) (i : Nat) : (Ints xs)[i]? = (xs[i]?).map (Value.int .i64) := by simp [Ints]

section
variable {lo : Nat} {e : TypeId} {w w' : World} {v : Value} {us : List Value}

theorem Own.nil (w : World) (lo : Nat) (e : TypeId) : Own lo e w (.slice none 0 0) [] := World.ownsRow_nil w lo e 1

theorem Own.shape (h : Own lo e w v us) : ∃ a c, v = .slice a us.length c ∧ us.length ≤ c ∧ us.length ≤ maxLen ∧ (a = none → c = 0 ∧ us = []) := by
  obtain ⟨_, ⟨rfl, h0⟩ | ⟨g, cap, cur, rfl, _, _, hn, hm, _, _⟩⟩ := h
  · have : us = [] := List.eq_nil_of_length_eq_zero h0
    subst this
    exact ⟨none, 0, rfl, Nat.le_refl _, Nat.zero_le _, fun _ => ⟨rfl, rfl⟩⟩
  · exact ⟨_, cap, rfl, hn, by omega, fun h => by cases h⟩

/-- Its block. -/
theorem Own.block (h : Own lo e w v us) : ∀ k, v.ownBlock = some k → lo ≤ k ∧ k < w.heap.size := World.ownsRow.lt h

theorem Own.cell (h : Own lo e w v us) {i : Nat} {u : Value} (hu : us[i]? = some u) : ∃ g c, v = .slice (some ⟨g, 0, none⟩) us.length c ∧ lo ≤ g ∧ g < w.heap.size ∧ w.cell? ⟨g, i, none⟩ = some u ∧ w.frozen? ⟨g, i, none⟩ = false ∧ v.ownBlock = some g := by
  have hi : i < us.length := (List.getElem?_eq_some_iff.1 hu).1
  have h0 := h
  obtain ⟨_, ⟨rfl, h0⟩ | ⟨g, cap, cur, rfl, hb, hg, _, _, _, _⟩⟩ := h
  · omega
  · refine ⟨g, cap, rfl, hb, (Array.getElem?_eq_some_iff.1 hg).1, ?_, World.ownsRow.frozenAt h0 i, rfl⟩
    rw [World.ownsRow.cellAt h0 i (by omega)]
    exact hu

/-- It stays owned where its own block is as it was. -/
theorem Own.keep (h : Own lo e w v us) (hs : ∀ k, v.ownBlock = some k → w'.heap[k]? = w.heap[k]?) : Own lo e w' v us := by
  obtain ⟨h1, ⟨rfl, h0⟩ | ⟨g, cap, cur, rfl, hb, hg, rest⟩⟩ := h
  · exact ⟨h1, .inl ⟨rfl, h0⟩⟩
  · exact ⟨h1, .inr ⟨g, cap, cur, rfl, hb, by rw [hs g rfl]; exact hg, rest⟩⟩

theorem Own.below {B : Nat} (h : Own lo e w v us) (hb : Below B w w') (hB : w.heap.size ≤ B) : Own lo e w' v us :=
  h.keep fun k hk => hb.block k (by have := (h.block k hk).2; omega)

theorem Own.still (h : Own lo e w v us) (hs : Still w w') : Own lo e w' v us := h.keep fun k _ => by rw [hs.heap]

theorem Own.lower {lo' : Nat} (h : Own lo e w v us) (hl : lo' ≤ lo) : Own lo' e w v us := by
  obtain ⟨h1, ⟨rfl, h0⟩ | ⟨g, cap, cur, rfl, hb, hg, rest⟩⟩ := h
  · exact ⟨h1, .inl ⟨rfl, h0⟩⟩
  · exact ⟨h1, .inr ⟨g, cap, cur, rfl, by omega, hg, rest⟩⟩

/-- It reads as a slice. -/
theorem Own.toSL {α : Type} {R : Nat → Nat → World → Value → α → Prop} {lo' hi : Nat} {xs : List α} (h : Own lo e w v us) (hl : us.length = xs.length) (hlo : lo' ≤ lo) (hhi : ∀ k, v.ownBlock = some k → k < hi) (hz : hi ≤ w.heap.size)
    (hR : ∀ (i : Nat) u x, us[i]? = some u → xs[i]? = some x → R lo' hi w u x) : SL R lo' hi w v xs := by
  obtain ⟨a, c, hv, hc, hm, hn⟩ := h.shape
  refine ⟨hz, a, c, by rw [hv, hl], by omega, ⟨by omega, fun ha => (hn ha).1⟩, fun i x hx => ?_⟩
  have hi : i < us.length := by rw [hl]; exact (List.getElem?_eq_some_iff.1 hx).1
  obtain ⟨g, c', hv', hg1, hg2, hcell, _, hob⟩ := h.cell (List.getElem?_eq_getElem hi)
  rw [hv] at hv'
  simp only [Value.slice.injEq] at hv'
  refine ⟨g, 0, us[i], hv'.1, by omega, hhi g hob, by simpa using hcell, hR i _ x (List.getElem?_eq_getElem hi) hx⟩

theorem Own.toIS {lo' : Nat} {xs : List Int} (h : Own lo e w v (Ints xs)) (hlo : lo' ≤ lo) : IS lo' w.heap.size w v xs :=
  h.toSL (Ints_length xs) hlo (fun k hk => (h.block k hk).2) (Nat.le_refl _) fun i u x hu hx => by
    rw [Ints_get, hx] at hu
    simpa [RI] using hu.symm
end

/-- Block b: the cells cs, of element type t, none of them frozen. -/
def Blk (w : World) (b : Nat) (cs : List Value) (t : TypeId) : Prop := w.heap[b]? = some (.cells cs.toArray t (0, 0))

section
variable {w w' : World} {b : Nat} {cs : List Value} {t : TypeId}
theorem Blk.cell (h : Blk w b cs t) {j : Nat} {v : Value} (hj : cs[j]? = some v) : w.cell? ⟨b, j, none⟩ = some v := by
  rw [cell_of_row w b j cs.toArray t (0, 0) h]; simpa using hj
theorem Blk.free (h : Blk w b cs t) (j : Nat) : w.frozen? ⟨b, j, none⟩ = false := frozen_of_row w b j _ t h
theorem Blk.lt (h : Blk w b cs t) : b < w.heap.size := (Array.getElem?_eq_some_iff.1 h).1
theorem Blk.keep (h : Blk w b cs t) (hs : w'.heap[b]? = w.heap[b]?) : Blk w' b cs t := by unfold Blk; rw [hs]; exact h
theorem Blk.below {B : Nat} (h : Blk w b cs t) (hb : Below B w w') (hB : b < B) : Blk w' b cs t := h.keep (hb.block b hB)
theorem Blk.still (h : Blk w b cs t) (hs : Still w w') : Blk w' b cs t := h.keep (by rw [hs.heap])
theorem Blk.new (w : World) (cs : List Value) (t : TypeId) : Blk (w.alloc (.cells cs.toArray t)) w.heap.size cs t := heap_alloc_new w _
theorem Blk.set (h : Blk w b cs t) (j : Nat) (v : Value) : Blk (w.setCell ⟨b, j, none⟩ v) b (cs.set j v) t := by
  unfold Blk
  rw [heap_setCell_same w b j cs.toArray t v h]
  simp
end

/-- What a store into block b leaves: every other block, and the number of blocks. -/
structure But (b : Nat) (w w' : World) : Prop where
  os : w'.os = w.os
  tape : w'.tape = w.tape
  output : w'.output = w.output
  size : w'.heap.size = w.heap.size
  block : ∀ k, k ≠ b → w'.heap[k]? = w.heap[k]?

theorem But.setCell (w : World) (b j : Nat) (v : Value) : But b w (w.setCell ⟨b, j, none⟩ v) :=
  ⟨rfl, rfl, rfl, by simp, fun k hk => heap_setCell_other w ⟨b, j, none⟩ k v hk⟩
theorem But.below {b B : Nat} {w w' : World} (h : But b w w') (hB : B ≤ b) : Below B w w' := ⟨h.os, h.tape, h.output, by rw [h.size]; exact Nat.le_refl _, fun k hk => h.block k (by omega)⟩
theorem But.trans {b : Nat} {x y z : World} (h : But b x y) (h' : But b y z) : But b x z :=
  ⟨h'.os.trans h.os, h'.tape.trans h.tape, h'.output.trans h.output, h'.size.trans h.size, fun k hk => (h'.block k hk).trans (h.block k hk)⟩
theorem But.refl (b : Nat) (w : World) : But b w w := ⟨rfl, rfl, rfl, rfl, fun _ _ => rfl⟩

theorem below_alloc (w : World) (o : Obj) : Below w.heap.size w (w.alloc o) := (Below.refl _ _).alloc (Nat.le_refl _) o
theorem grown_below {w w' : World} {row : Option Nat} {B : Nat} (hg : w.grownBy w' row) (hB : B ≤ w.heap.size) (hr : ∀ k, row = some k → B ≤ k) : Below B w w' := (Below.refl B w).grown hg hB hr

section
variable {P : Program} {N : Nat} {Q : Exit → Fr → World → Prop} {l : Fr} {w w' : World} {ops : Array Oper} {K : Fr → World → Prop}
variable {d : Nat} {ty : TypeId} {pos : String} {af : Array Edge} {g : Option (Nat × Bool)}

theorem cells_of_one {v : Value} (hv : v.oneCell' = true) : v.cells = #[v] := by cases v <;> simp_all [Value.cells, Value.oneCell']

/-- A new variable that holds a value. -/
theorem o_box {t : TypeId} {x : Operand} {v : Value} (hx : ev l x = some v) (k : ∀ w1, Blk w1 w.heap.size v.cells.toList t → Below w.heap.size w w1 → w1.heap.size = w.heap.size + 1 → K ((d, .pointer (some ⟨w.heap.size, 0, none⟩)) :: l) w1)
    (hg : wantedL ops l g = some true := by rfl) (hd : Nat.blt d N = true := by rfl) : OpW P N ops Q ⟨some d, .box t x, ty, pos, af, g⟩ l w K :=
  OpW.val (w' := w.alloc (.cells v.cells t)) (fun fr ha => by simp [execOp, ha.ev hx, Instr.box, newVar, newRow]) (k _ (by simpa using Blk.new w v.cells.toList t) (below_alloc _ _) (by simp)) hg hd

theorem ZeroTy.run {t : TypeId} {z : Value} (h : ZeroTy P t z) : (zeroValue t).run P w = .ok z w := by
  have := h.zero
  cases hi : P.info? t with
  | none => simp [hi] at this
  | some i => simp [hi] at this; simp [zeroValue, typeInfo, hi, this]

theorem o_alloc {t : TypeId} {z : Value} [h : ZeroTy P t z] (k : ∀ w1, Blk w1 w.heap.size z.cells.toList t → Below w.heap.size w w1 → w1.heap.size = w.heap.size + 1 → K ((d, .pointer (some ⟨w.heap.size, 0, none⟩)) :: l) w1)
    (hg : wantedL ops l g = some true := by rfl) (hd : Nat.blt d N = true := by rfl) : OpW P N ops Q ⟨some d, .alloc t, ty, pos, af, g⟩ l w K :=
  OpW.val (w' := w.alloc (.cells z.cells t)) (fun fr ha => by simp [execOp, Instr.alloc, h.run, newVar, newRow]) (k _ (by simpa using Blk.new w z.cells.toList t) (below_alloc _ _) (by simp)) hg hd

/-- A variable of more than one cell is read whole. -/
theorem o_loadS {t : TypeId} {n : Nat} {z : Array Value} [h : StructTy P t n z] {x : Operand} {b : Nat} {cs : List Value} {tt : TypeId} (hx : ev l x = some (.pointer (some ⟨b, 0, none⟩))) (hb : Blk w b cs tt) (hn : cs.length = n)
    (k : K ((d, .agg cs.toArray) :: l) w) (hg : wantedL ops l g = some true := by rfl) (hd : Nat.blt d N = true := by rfl) : OpW P N ops Q ⟨some d, .load t x, ty, pos, af, g⟩ l w K :=
  OpW.val (fun fr ha => by
    obtain ⟨fs, hu⟩ := h.und
    have hs : (P.info? t).map (·.size) = some cs.toArray.size := by
      have := h.size
      cases hi : P.info? t <;> simp_all
    simp [execOp, ha.ev hx, Instr.loadAt, Instr.sureAddr, run_loadVar_row w b tt t cs.toArray (0, 0) _ hb hu rfl hs]) k hg hd

theorem run_storeCells_blk {b : Nat} {t : TypeId} : ∀ (vs : List Value) (j : Nat) (cs : List Value) (w : World), Blk w b cs t → j + vs.length ≤ cs.length → (∀ u ∈ vs, u.oneCell' = true) →
    ∃ w1, (storeCells ⟨b, 0, none⟩ vs j).run P w = .ok () w1 ∧ Blk w1 b (cs.take j ++ vs ++ cs.drop (j + vs.length)) t ∧ But b w w1
  | [], j, cs, w, h, _, _ => ⟨w, by simp [storeCells], by simpa using h, But.refl b w⟩
  | v :: vs, j, cs, w, h, hl, h1 => by
    simp only [List.length_cons] at hl
    have hj : j < cs.length := by omega
    have hadd : (⟨b, 0, none⟩ : Addr).add j = ⟨b, j, none⟩ := by unfold Addr.add; split <;> simp_all
    have hc : w.cell? ⟨b, j, none⟩ = some cs[j] := h.cell (List.getElem?_eq_getElem hj)
    obtain ⟨w1, hr, hb, hw⟩ := run_storeCells_blk vs (j + 1) (cs.set j v) (w.setCell ⟨b, j, none⟩ v) (h.set j v) (by simp; omega) (fun u hu => h1 u (by simp [hu]))
    refine ⟨w1, ?_, ?_, (But.setCell w b j v).trans hw⟩
    · simp [storeCells, hadd, run_store P w ⟨b, j, none⟩ v .plain (h1 v (by simp)), hc, h.free j, hr]
    · have e : (cs.set j v).take (j + 1) ++ vs ++ (cs.set j v).drop (j + 1 + vs.length) = cs.take j ++ (v :: vs) ++ cs.drop (j + (v :: vs).length) := by
        rw [List.take_set, List.drop_set]
        rw [if_pos (by omega)]
        have : (cs.take (j + 1)).set j v = cs.take j ++ [v] := by
          rw [List.take_succ_eq_append_getElem hj, List.set_append]
          simp [Nat.min_eq_left (Nat.le_of_lt hj)]
        rw [this]
        simp [Nat.add_assoc, Nat.add_comm 1]
      rw [e] at hb
      exact hb

/-- A variable of more than one cell is written whole. -/
theorem o_storeS {t : TypeId} {n : Nat} {z : Array Value} [h : StructTy P t n z] {x y : Operand} {b : Nat} {cs vs : List Value} {tt : TypeId} (hx : ev l x = some (.pointer (some ⟨b, 0, none⟩))) (hy : ev l y = some (.agg vs.toArray)) (hb : Blk w b cs tt) (hn : cs.length = n) (hm : vs.length = n)
    (h1 : ∀ u ∈ vs, u.oneCell' = true) (k : ∀ w1, Blk w1 b vs tt → But b w w1 → K l w1)
    (hg : wantedL ops l g = some true := by rfl) : OpW P N ops Q ⟨none, .store t x y, ty, pos, af, g⟩ l w K := by
  obtain ⟨w1, hr, hb1, hw⟩ := run_storeCells_blk (P := P) vs 0 cs w hb (by omega) h1
  have e : cs.take 0 ++ vs ++ cs.drop (0 + vs.length) = vs := by simp [hn, hm]
  rw [e] at hb1
  refine OpW.unit (w' := w1) (fun fr ha => ?_) (k w1 hb1 hw) hg
  have hs := h.size
  cases hi : P.info? t with
  | none => simp [hi] at hs
  | some i =>
    simp [hi] at hs
    simp [execOp, ha.ev hx, ha.ev hy, Instr.storeAt, Instr.sureAddr, storeVar, sizeOf, typeInfo, hi, hs, Value.cells, hm, hr]

theorem SliceTy.zeroRun {t e : TypeId} {z : Value} {bytes : Nat} (h : SliceTy P t e z bytes) : (zeroValue e).run P w = .ok z w := by
  have := h.info
  cases hi : P.info? e with
  | none => simp [hi] at this
  | some i => simp [hi] at this; simp [zeroValue, typeInfo, hi, this]

/-- make([]T, n). -/
theorem o_make {t e : TypeId} {z : Value} {bytes : Nat} [h : SliceTy P t e z bytes] {x y : Operand} {n : Nat} {k1 k2 : IntKind} (hx : ev l x = some (.int k1 n)) (hy : ev l y = some (.int k2 n)) (hb : bytes * n ≤ 281474976710656) (hm : n ≤ maxLen)
    (k : ∀ v w1, Own w.heap.size e w1 v (List.replicate n z) → Below w.heap.size w w1 → w1.heap.size = w.heap.size + 1 → K ((d, v) :: l) w1)
    (hg : wantedL ops l g = some true := by rfl) (hd : Nat.blt d N = true := by rfl) : OpW P N ops Q ⟨some d, .makeSlice t x y, ty, pos, af, g⟩ l w K := by
  obtain ⟨i0, hi, hz0, hz1, hz2⟩ := info_parts h.info
  have hr := run_make (P := P) w t e i0 z h.und hi hz0 k1 k2 (n : Int) (n : Int) (by omega) (Int.le_refl _) (by rw [hz2]; have := Int.natCast_mul bytes n; omega) (by unfold maxLen at hm; omega)
  simp only [Int.toNat_natCast, hz1, Nat.mul_one] at hr
  refine OpW.val (w' := w.alloc (.cells (madeCells z.cells n) e)) (fun fr ha => ?_) (k (.slice (some ⟨w.heap.size, 0, none⟩) n n) _ ?_ (below_alloc _ _) (by simp)) hg hd
  · simp only [execOp, ha.ev hx, ha.ev hy, Sem.run_bind, hr, Result.andThen_ok, Sem.run_pure]
  · have := World.ownsRow_lit (base := w.heap.size) (e := e) (size := 1) w (madeCells z.cells n) n (Nat.le_refl _) hm (by simp [size_madeCells])
    have e2 : (madeCells z.cells n).toList = List.replicate n z := by rw [h.one]; exact toList_madeCells_one z n
    rw [e2] at this
    unfold Own
    rw [List.length_replicate]
    exact this

/-- A slice literal: its elements are written out. -/
theorem o_lit {t e : TypeId} {z : Value} {bytes : Nat} [h : SliceTy P t e z bytes] {n : Nat} {parts : Array (Nat × Operand)} {us : List Value} (hp : parts.toList.map (·.1) = List.range n) (hx : evs l (parts.toList.map (·.2)) = some us) (hn : us.length = n) (hsm : n ≤ 1000) (h1 : ∀ u ∈ us, u.oneCell' = true)
    (k : ∀ v w1, Own w.heap.size e w1 v us → Below w.heap.size w w1 → w1.heap.size = w.heap.size + 1 → v = .slice (some ⟨w.heap.size, 0, none⟩) n n → K ((d, v) :: l) w1)
    (hg : wantedL ops l g = some true := by rfl) (hd : Nat.blt d N = true := by rfl) : OpW P N ops Q ⟨some d, .buildSlice t n parts, ty, pos, af, g⟩ l w K := by
  have fillOk : ∀ (us : List Value) (j : Nat) (cells : Array Value), j + us.length ≤ cells.size → (∀ u ∈ us, u.oneCell' = true) →
      Instr.fill (fun i => some (i * 1, 1)) cells ((us.zipIdx j).map fun x => (x.2, x.1)) = some (cells.toList.take j ++ us ++ cells.toList.drop (j + us.length)).toArray := by
    intro us
    induction us with
    | nil => intro j cells _ _; simp [Instr.fill]
    | cons u us ih =>
      intro j cells hl h1
      simp only [List.length_cons] at hl
      have hc := cells_of_one (h1 u (by simp))
      have := ih (j + 1) (cells.setIfInBounds j u) (by simp; omega) (fun x hx => h1 x (by simp [hx]))
      simp only [List.zipIdx_cons, List.map_cons, Instr.fill, hc, Nat.mul_one]
      rw [if_neg (by simp; omega)]
      simp only [Nat.mul_one] at this
      have e3 : (#[u].zipIdx.foldl (fun cs x => cs.setIfInBounds (j + x.2) x.1) cells) = cells.setIfInBounds j u := by simp
      rw [show (Array.foldl (fun cs x => match x with | (c, j_1) => cs.setIfInBounds (j + j_1) c) cells #[u].zipIdx) = cells.setIfInBounds j u from by simp]
      rw [this]
      congr 2
      have hj : j < cells.toList.length := by simp; omega
      rw [Array.toList_setIfInBounds, List.take_set, List.drop_set, if_pos (by omega)]
      have : (cells.toList.take (j + 1)).set j u = cells.toList.take j ++ [u] := by
        rw [List.take_succ_eq_append_getElem hj, List.set_append]
        simp only [List.length_take]
        rw [if_neg (by omega)]
        simp only [Array.length_toList] at hj ⊢
        simp [show j - min j cells.size = 0 from by omega]
      rw [this]
      simp [Nat.add_assoc, Nat.add_comm 1]
  obtain ⟨i0, hi, hz0, hz1, hz2⟩ := info_parts h.info
  have hlen : parts.toList.length = n := by have := congrArg List.length hp; simpa using this
  have hrun : ∀ fr, Rep N fr l → (Instr.buildSlice t n (parts.map fun (i, x) => (i, fr.eval x))).run P w = .ok (.slice (some ⟨w.heap.size, 0, none⟩) n n) (w.alloc (.cells us.toArray e)) := by
    intro fr ha
    have hm := evs_map ha hx
    have hpl : (parts.map fun (i, x) => (i, fr.eval x)).toList = (us.zipIdx 0).map fun x => (x.2, x.1) := by
      rw [Array.toList_map]
      apply List.ext_getElem?
      intro j
      have h2 := congrArg (·[j]?) hp
      have h3 := congrArg (·[j]?) hm
      simp only [List.getElem?_map] at h2 h3 ⊢
      rw [List.getElem?_zipIdx]
      by_cases hj : j < n
      · rw [List.getElem?_range hj] at h2
        cases hq : parts.toList[j]? with
        | none => simp [hq] at h2
        | some pr => simp [hq] at h2 h3 ⊢; rw [← h3]; simp [h2]
      · rw [List.getElem?_eq_none (by omega), List.getElem?_eq_none (by omega)]
        simp
    have hf := fillOk us 0 (madeCells z.cells (n * 1)) (by simp [size_madeCells, hn]) h1
    rw [show (madeCells z.cells (n * 1)).toList.take 0 ++ us ++ (madeCells z.cells (n * 1)).toList.drop (0 + us.length) = us from by
      rw [List.drop_eq_nil_of_le (by simp [size_madeCells, hn])]; simp] at hf
    by_cases h0 : n = 0
    · subst h0
      have : us = [] := List.eq_nil_of_length_eq_zero hn
      subst this
      have hpn : parts.toList = [] := List.eq_nil_of_length_eq_zero hlen
      simp [Instr.buildSlice, run_underlying h.und, sizeOf, typeInfo, hi, newRow, hpn, Instr.fill]
      rw [show (Array.map (fun _ => (default : Value)) (Array.range 0)) = #[] from Array.eq_empty_of_size_eq_zero (by simp)]
    · have hz := h.zeroRun (w := w)
      have hpl2 : parts.toList.map (fun x => (x.1, fr.eval x.2)) = (us.zipIdx 0).map fun x => (x.2, x.1) := by rw [← hpl, Array.toList_map]
      simp [Instr.buildSlice, run_underlying h.und, sizeOf, typeInfo, hi, hz1, newRow, hz, h0]
      rw [if_neg (by omega)]
      simp only [madeCells, Nat.mul_one] at hf
      simp only [hpl2]
      simp [hf]
  refine OpW.val (fun fr ha => ?_) (k _ (w.alloc (.cells us.toArray e)) ?_ (below_alloc _ _) (by simp) rfl) hg hd
  · simp only [execOp, Sem.run_bind, hrun fr ha, Result.andThen_ok, Sem.run_pure]
  · have := World.ownsRow_lit (base := w.heap.size) (e := e) (size := 1) w us.toArray n (Nat.le_refl _) (by unfold maxLen; omega) (by simp [hn])
    unfold Own
    rw [hn]
    exact this

/-- A struct literal. -/
theorem o_build {t : TypeId} {parts : Array (Nat × Operand)} {us cells : List Value} (hx : evs l (parts.toList.map (·.2)) = some us) (hb : P.built t ((parts.toList.map (·.1)).zip us) = some cells.toArray)
    (k : K ((d, .agg cells.toArray) :: l) w) (hg : wantedL ops l g = some true := by rfl) (hd : Nat.blt d N = true := by rfl) : OpW P N ops Q ⟨some d, .build t parts, ty, pos, af, g⟩ l w K := by
  refine OpW.val (fun fr ha => ?_) k hg hd
  have hm := evs_map ha hx
  have hp : (parts.map fun (i, x) => (i, fr.eval x)).toList = (parts.toList.map (·.1)).zip us := by
    rw [Array.toList_map, ← hm, List.map_map]
    induction parts.toList with
    | nil => rfl
    | cons x r ih => simp [ih]
  have hr := run_build (P := P) w t (parts.map fun (i, x) => (i, fr.eval x)) cells.toArray (by rw [hp]; exact hb)
  simp only [execOp, Sem.run_bind, hr, Result.andThen_ok, Sem.run_pure]

theorem run_sliceH {t e : TypeId} {z : Value} {bytes : Nat} [h : SliceTy P t e z bytes] {a : Option Addr} {n c i : Nat} {kk : IntKind} (hi : i ≤ c) :
    (Instr.sliceAt t (.slice a n c) none (some (.int kk (i : Nat))) none).run P w = .ok (.slice a i c) w := by
  have he : P.elem t = e := by have := h.und; simp [Program.elem, this]
  have hu : P.underlying t = some (.slice (P.elem t)) := by rw [he]; exact h.und
  rw [run_sliceAt_slice w t _ _ _ _ hu, run_slice_h w t a n c hu kk (i : Nat) (by omega) (by omega), he, h.size]
  cases a with
  | none => simp [sliced]
  | some ad => simp [sliced, Addr.add]
/-- x[:i]. -/
theorem o_sliceH {t e : TypeId} {z : Value} {bytes : Nat} [SliceTy P t e z bytes] {x y : Operand} {a : Option Addr} {n c i : Nat} {kk : IntKind} (hx : ev l x = some (.slice a n c)) (hy : ev l y = some (.int kk (i : Nat))) (hi : i ≤ c)
    (k : K ((d, .slice a i c) :: l) w) (hg : wantedL ops l g = some true := by rfl) (hd : Nat.blt d N = true := by rfl) : OpW P N ops Q ⟨some d, .slice t x none (some y) none, ty, pos, af, g⟩ l w K :=
  OpW.val (fun fr ha => by simp [execOp, ha.ev hx, ha.ev hy, run_sliceH (P := P) (t := t) hi]) k hg hd
end
end Go.Fw
