/- Numbers, lists, tableaus in the laws; what a call changes; growing slices and the block of their result; trees of orders. -/
import Derived.Laws.StructEq
import Derived.Laws.CopyRow
import Derived.Test.YthepgmajeljdhaaGreatDoorFacts
import Derived.Test.YthepgmajeljdhaaGreatDoorBase
/- What the laws' own helpers compute: slices of integers. -/
namespace Go.Proofs
open Go Go.Fw Go.RowKit

theorem mixed : Tryz.prog.follows .mixedOrders = true := by kernel_rfl

theorem take_fill (xs : List Int) (k : Nat) (h : k < xs.length) : (Ints (xs.take k) ++ List.replicate (xs.length - k) (Value.int .i64 0)).set k (.int .i64 xs[k]) = Ints (xs.take (k + 1)) ++ List.replicate (xs.length - (k + 1)) (Value.int .i64 0) := by
  have hk : (Ints (xs.take k)).length = k := by simp [Ints]; omega
  rw [List.set_append_right _ _ (by omega), hk, Nat.sub_self, show xs.length - k = (xs.length - (k + 1)) + 1 from by omega, List.replicate_succ, List.set_cons_zero, List.take_succ_eq_append_getElem h, Ints_append]
  simp [Ints]

/-- What a slice of integers of the call's own is: new, owned, in memory that was not there. -/
def NewI (w : World) (v : Value) (w' : World) (xs : List Int) : Prop := Own w.heap.size 2 w' v (Ints xs) ∧ Below w.heap.size w w'


theorem take_eq_step {xs ys : List Int} {k : Nat} (h1 : k < xs.length) (h2 : k < ys.length) (h : xs.take k = ys.take k) : xs.take (k + 1) = ys.take (k + 1) ↔ xs[k] = ys[k] := by
  rw [List.take_succ_eq_append_getElem h1, List.take_succ_eq_append_getElem h2, h, List.append_cancel_left_eq]
  simp


/-- k, k + 1, .. -/
def countI (k : Int) : Nat → List Int
  | 0 => []
  | n + 1 => k :: countI (k + 1) n
theorem countI_length (k : Int) (n : Nat) : (countI k n).length = n := by induction n generalizing k <;> simp_all [countI]
theorem countI_get (k : Int) (n i : Nat) (h : i < n) : (countI k n)[i]? = some (k + i) := by
  induction n generalizing k i with
  | zero => omega
  | succ n ih =>
    cases i with
    | zero => simp [countI]
    | succ i => rw [countI, List.getElem?_cons_succ, ih (k + 1) i (by omega)]; congr 1; omega
theorem countI_succ (k : Int) (n : Nat) : countI k (n + 1) = countI k n ++ [k + n] := by
  induction n generalizing k with
  | zero => simp [countI]
  | succ n ih => rw [countI, ih (k + 1), countI]; simp; omega

theorem mark_step {xs : List Int} {k : Int} {i : Nat} (h : i < xs.length) :
    (Ints (countI k i) ++ Ints (xs.drop i)).set i (.int .i64 (k + i)) = Ints (countI k (i + 1)) ++ Ints (xs.drop (i + 1)) := by
  have hk : (Ints (countI k i)).length = i := by rw [Ints_length, countI_length]
  rw [List.set_append_right _ _ (by omega), hk, Nat.sub_self, List.drop_eq_getElem_cons h, countI_succ, Ints_append]
  simp only [Ints, List.map_cons, List.set_cons_zero, List.append_assoc, List.map_nil, List.singleton_append]


end Go.Proofs
/- What a call leaves of older memory, in one form; data that the laws make, compare, mark and look at again. -/
namespace Go.Fw
open Go Go.RowKit

/-- Of the blocks that stood in w, those outside [a, b) are as they were. -/
structure Chg (a b : Nat) (w w' : World) : Prop where
  os : w'.os = w.os
  tape : w'.tape = w.tape
  output : w'.output = w.output
  size : w.heap.size ≤ w'.heap.size
  block : ∀ k, k < w.heap.size → (k < a ∨ b ≤ k) → w'.heap[k]? = w.heap[k]?

theorem Chg.of_below {w w' : World} (h : Below w.heap.size w w') : Chg 0 0 w w' := ⟨h.os, h.tape, h.output, h.size, fun k hk _ => h.block k hk⟩
theorem Chg.of_still {w w' : World} (h : Still w w') : Chg 0 0 w w' := Chg.of_below (h.below _)
theorem Chg.same {a b lo hi : Nat} {w w' : World} (h : Chg a b w w') (hz : hi ≤ w.heap.size) (hd : hi ≤ a ∨ b ≤ lo) : Same lo hi w w' := fun k h1 h2 => h.block k (by omega) (by omega)
theorem Chg.below {a b B : Nat} {w w' : World} (h : Chg a b w w') (hB : B ≤ w.heap.size) (hd : B ≤ a ∨ b ≤ 0) : Below B w w' :=
  ⟨h.os, h.tape, h.output, h.size, fun k hk => h.block k (by omega) (by omega)⟩

section
variable {α : Type} {R : Nat → Nat → World → Value → α → Prop}
theorem SL.chg (hR : Stable R) {lo hi a b : Nat} {w w' : World} {v : Value} {xs : List α} (h : SL R lo hi w v xs) (hc : Chg a b w w') (hd : hi ≤ a ∨ b ≤ lo) : SL R lo hi w' v xs :=
  SL.same hR h (hc.same h.hi_le hd) (Nat.le_trans h.hi_le hc.size)
end

/-- A slice of integers that the call owns, in the blocks from lo on, below hi. -/
structure OwI (e : TypeId) (lo hi : Nat) (w : World) (v : Value) (xs : List Int) : Prop where
  own : Own lo e w v (Ints xs)
  lt : ∀ k, v.ownBlock = some k → k < hi
  hi_le : hi ≤ w.heap.size

theorem OwI.chg {e : TypeId} {lo hi a b : Nat} {w w' : World} {v : Value} {xs : List Int} (h : OwI e lo hi w v xs) (hc : Chg a b w w') (hd : hi ≤ a ∨ b ≤ lo) : OwI e lo hi w' v xs :=
  ⟨h.own.keep fun k hk => hc.same h.hi_le hd k (h.own.block k hk).1 (h.lt k hk), h.lt, Nat.le_trans h.hi_le hc.size⟩
theorem OwI.rd {e : TypeId} {lo hi : Nat} {w : World} {v : Value} {xs : List Int} (h : OwI e lo hi w v xs) : IS lo hi w v xs :=
  h.own.toSL (Ints_length xs) (Nat.le_refl _) h.lt h.hi_le fun i u x hu hx => by
    rw [Ints_get, hx] at hu
    simpa [RI] using hu.symm
theorem RI.chg {lo hi a b : Nat} {w w' : World} {v : Value} {xs : List Int} (h : IS lo hi w v xs) (hc : Chg a b w w') (hd : hi ≤ a ∨ b ≤ lo) : IS lo hi w' v xs := SL.chg RI.stable h hc hd
end Go.Fw

namespace Go.Proofs
open Go Go.Fw Go.RowKit
theorem NewI.ow {w w' : World} {v : Value} {xs : List Int} (h : NewI w v w' xs) : OwI 2 w.heap.size w'.heap.size w' v xs := ⟨h.1, fun k hk => (h.1.block k hk).2, Nat.le_refl _⟩
theorem NewI.chg {w w' : World} {v : Value} {xs : List Int} (h : NewI w v w' xs) : Chg 0 0 w w' := Chg.of_below h.2

end Go.Proofs
/- Slices of slices of integers, and tableaus: made, compared, marked and looked at again by the laws. -/
namespace Go.Fw
open Go Go.RowKit

theorem Blk.chg {w w' : World} {b a c : Nat} {cs : List Value} {t : TypeId} (h : Blk w b cs t) (hc : Chg a c w w') (hd : b < a ∨ c ≤ b) : Blk w' b cs t := h.keep (hc.block b h.lt hd)
theorem But.chg {b : Nat} {w w' : World} (h : But b w w') : Chg b (b + 1) w w' := ⟨h.os, h.tape, h.output, by rw [h.size]; exact Nat.le_refl _, fun k _ hk => h.block k (by omega)⟩

section
variable {P : Program} {N : Nat} {Q : Exit → Fr → World → Prop} {l : Fr} {w : World} {ops : Array Oper} {rest : List Oper}
/-- x.f of a variable that is a block: the place and the load. -/
theorem WL.fld {s t f off b d1 d2 : Nat} [FieldTy P s f off] [CellTy P t] {x x2 : Operand} {cs : List Value} {tt : TypeId} {v : Value} {ty1 ty2 : TypeId} {pos1 pos2 : String} {af1 af2 : Array Edge} {g1 g2 : Option (Nat × Bool)}
    (hb : Blk w b cs tt) (k : ∀ p, WL P N ops Q rest ((d2, v) :: (d1, p) :: l) w) (hv : cs[off]? = some v := by rfl) (hx : ev l x = some (.pointer (some ⟨b, 0, none⟩)) := by rfl) (h2 : x2 = .tmp d1 := by rfl)
    (hg1 : wantedL ops l g1 = some true := by rfl) (hg2 : ∀ p, wantedL ops ((d1, .pointer (some p)) :: l) g2 = some true := by intro _; rfl) (hd1 : Nat.blt d1 N = true := by rfl) (hd2 : Nat.blt d2 N = true := by rfl) :
    WL P N ops Q (⟨some d1, .fieldAddr s x f, ty1, pos1, af1, g1⟩ :: ⟨some d2, .load t x2, ty2, pos2, af2, g2⟩ :: rest) l w := by
  subst h2
  refine WL.step (o_field hx ?_ hg1 hd1)
  have ha : (⟨b, 0, none⟩ : Addr).add off = ⟨b, off, none⟩ := by unfold Addr.add; split <;> simp_all
  rw [ha]
  exact WL.step (o_load (look_cons_self _ _ _) (hb.cell hv) (k _) (hg2 _) hd2)

/-- var x = u, of a struct. -/
theorem WL.var {t n d1 : Nat} {z : Array Value} {zz : Value} [StructTy P t n z] [ZeroTy P t zz] {x y : Operand} {vs : List Value} {ty1 ty2 : TypeId} {pos1 pos2 : String} {af1 af2 : Array Edge}
    (hy : ∀ p, ev ((d1, p) :: l) y = some (.agg vs.toArray)) (hm : vs.length = n) (h1 : ∀ u ∈ vs, u.oneCell' = true)
    (k : ∀ w1, Blk w1 w.heap.size vs t → Below w.heap.size w w1 → w1.heap.size = w.heap.size + 1 → WL P N ops Q rest ((d1, .pointer (some ⟨w.heap.size, 0, none⟩)) :: l) w1)
    (hz : zz.cells.toList.length = n := by rfl) (h2 : x = .tmp d1 := by rfl) (hd1 : Nat.blt d1 N = true := by rfl) :
    WL P N ops Q (⟨some d1, .alloc t, ty1, pos1, af1, none⟩ :: ⟨none, .store t x y, ty2, pos2, af2, none⟩ :: rest) l w := by
  subst h2
  refine WL.step (o_alloc (z := zz) ?_ rfl hd1)
  intro w1 hb hbl hz1
  refine WL.step (o_storeS (vs := vs) (look_cons_self _ _ _) (hy _) hb hz hm h1 ?_)
  intro w2 hb2 hbut
  exact k w2 hb2 (hbl.trans (hbut.below (Nat.le_refl _))) (by rw [hbut.size, hz1])

/-- x.f = u. -/
theorem WL.fldst {s t f off b d1 : Nat} [FieldTy P s f off] [CellTy P t] {x x2 y : Operand} {cs : List Value} {tt : TypeId} {u old : Value} {ty1 ty2 : TypeId} {pos1 pos2 : String} {af1 af2 : Array Edge}
    (hb : Blk w b cs tt) (k : ∀ p w1, Blk w1 b (cs.set off u) tt → But b w w1 → WL P N ops Q rest ((d1, p) :: l) w1) (hv : cs[off]? = some old := by rfl) (hx : ev l x = some (.pointer (some ⟨b, 0, none⟩)) := by rfl) (hy : ∀ p, ev ((d1, p) :: l) y = some u := by intro _; rfl) (hu : u.oneCell' = true := by rfl) (h2 : x2 = .tmp d1 := by rfl)
    (hd1 : Nat.blt d1 N = true := by rfl) :
    WL P N ops Q (⟨some d1, .fieldAddr s x f, ty1, pos1, af1, none⟩ :: ⟨none, .store t x2 y, ty2, pos2, af2, none⟩ :: rest) l w := by
  subst h2
  refine WL.step (o_field hx ?_ rfl hd1)
  have ha : (⟨b, 0, none⟩ : Addr).add off = ⟨b, off, none⟩ := by unfold Addr.add; split <;> simp_all
  rw [ha]
  exact WL.step (o_store (look_cons_self _ _ _) (hy _) (hb.cell hv) (hb.free off) (k _ _ (hb.set off u) (But.setCell w b off u)) hu rfl)
end

/-- A slice of slices that the call owns: its own row and each row in it, all apart. -/
structure OwSSv (e e2 : TypeId) (lo hi : Nat) (w : World) (v : Value) (vs : List Value) (xss : List (List Int)) : Prop where
  own : Own lo e w v vs
  lt : ∀ k, v.ownBlock = some k → k < hi
  hi_le : hi ≤ w.heap.size
  len : vs.length = xss.length
  rows : ∀ (i : Nat) u xs, vs[i]? = some u → xss[i]? = some xs → OwI e2 lo hi w u xs
  apart : ∀ (i j : Nat) u u', i ≠ j → vs[i]? = some u → vs[j]? = some u' → ∀ k, u.ownBlock = some k → u'.ownBlock ≠ some k
  ne : e ≠ e2

theorem Own.elem {lo : Nat} {e : TypeId} {w : World} {v : Value} {us : List Value} (h : Own lo e w v us) {k : Nat} (hk : v.ownBlock = some k) : ∃ cur, w.heap[k]? = some (.cells cur e (0, 0)) := by
  obtain ⟨_, ⟨rfl, h0⟩ | ⟨g, cap, cur, rfl, hb, hg, _⟩⟩ := h
  · simp [Value.ownBlock] at hk
  · simp [Value.ownBlock] at hk
    subst hk
    exact ⟨cur, hg⟩

theorem Own.ne_block {lo lo' : Nat} {e e' : TypeId} {w : World} {v v' : Value} {us us' : List Value} (h : Own lo e w v us) (h' : Own lo' e' w v' us') (hne : e ≠ e') {k : Nat} (hk : v.ownBlock = some k) : v'.ownBlock ≠ some k := fun hk' => by
  obtain ⟨c1, h1⟩ := h.elem hk
  obtain ⟨c2, h2⟩ := h'.elem hk'
  rw [h1] at h2
  simp only [Option.some.injEq, Obj.cells.injEq] at h2
  exact hne h2.2.1

section
variable {e e2 : TypeId} {lo hi : Nat} {w w' : World} {v : Value} {vs : List Value} {xss : List (List Int)}

theorem OwSSv.chg {a b : Nat} (h : OwSSv e e2 lo hi w v vs xss) (hc : Chg a b w w') (hd : hi ≤ a ∨ b ≤ lo) : OwSSv e e2 lo hi w' v vs xss :=
  ⟨h.own.keep fun k hk => hc.same h.hi_le hd k (h.own.block k hk).1 (h.lt k hk), h.lt, Nat.le_trans h.hi_le hc.size, h.len, fun i u xs hu hx => (h.rows i u xs hu hx).chg hc hd, h.apart, h.ne⟩

theorem OwI.wide {lo' hi' : Nat} {xs : List Int} (h : OwI e lo hi w v xs) (h1 : lo' ≤ lo) (h2 : hi ≤ hi') (hz : hi' ≤ w.heap.size) : OwI e lo' hi' w v xs :=
  ⟨h.own.lower h1, fun k hk => Nat.lt_of_lt_of_le (h.lt k hk) h2, hz⟩

theorem OwSSv.wide {lo' hi' : Nat} (h : OwSSv e e2 lo hi w v vs xss) (h1 : lo' ≤ lo) (h2 : hi ≤ hi') (hz : hi' ≤ w.heap.size) : OwSSv e e2 lo' hi' w v vs xss :=
  ⟨h.own.lower h1, fun k hk => Nat.lt_of_lt_of_le (h.lt k hk) h2, hz, h.len, fun i u xs hu hx => (h.rows i u xs hu hx).wide h1 h2 hz, h.apart, h.ne⟩

theorem OwSSv.rd (h : OwSSv e e2 lo hi w v vs xss) : ISS lo hi w v xss :=
  h.own.toSL h.len (Nat.le_refl _) h.lt h.hi_le fun i u xs hu hx => (h.rows i u xs hu hx).rd

/-- One row's numbers are written. -/
theorem OwSSv.setRow {i : Nat} {u : Value} {ys : List Int} (h : OwSSv e e2 lo hi w v vs xss) (hu : vs[i]? = some u) (ho : Own lo e2 w' u (Ints ys)) (hz : w'.heap.size = w.heap.size) (hs : ∀ j, u.ownBlock ≠ some j → w'.heap[j]? = w.heap[j]?) :
    OwSSv e e2 lo hi w' v vs (xss.set i ys) := by
  have hi' : i < vs.length := (List.getElem?_eq_some_iff.1 hu).1
  obtain ⟨xs, hx⟩ : ∃ xs, xss[i]? = some xs := ⟨_, List.getElem?_eq_getElem (by rw [← h.len]; exact hi')⟩
  have hr := h.rows i u xs hu hx
  refine ⟨h.own.keep fun k hk => hs k fun e' => h.own.ne_block hr.own h.ne hk e', h.lt, by rw [hz]; exact h.hi_le, by simpa using h.len, fun j u' xs' hu' hx' => ?_, h.apart, h.ne⟩
  by_cases hij : i = j
  · subst hij
    rw [hu] at hu'
    simp only [Option.some.injEq] at hu'
    subst hu'
    rw [List.getElem?_set_self (by rw [← h.len]; exact hi')] at hx'
    simp only [Option.some.injEq] at hx'
    subst hx'
    exact ⟨ho, hr.lt, by rw [hz]; exact h.hi_le⟩
  · rw [List.getElem?_set_ne hij] at hx'
    have hr' := h.rows j u' xs' hu' hx'
    exact ⟨hr'.own.keep fun k hk => hs k (h.apart j i u' u (fun e => hij e.symm) hu' hu k hk), hr'.lt, by rw [hz]; exact h.hi_le⟩

/-- A new row is put into a place. -/
theorem OwSSv.putRow {i s hi' : Nat} {u : Value} {ys : List Int} (h : OwSSv e e2 lo hi w v vs xss) (hi1 : i < vs.length) (hu : OwI e2 s hi' w u ys) (hs : hi ≤ s) (hlo : lo ≤ s) (ho : Own lo e w' v (vs.set i u)) (hz : w'.heap.size = w.heap.size) (hb : ∀ k, v.ownBlock ≠ some k → w'.heap[k]? = w.heap[k]?) (hh : hi ≤ hi') :
    OwSSv e e2 lo hi' w' v (vs.set i u) (xss.set i ys) := by
  have keep : ∀ (u' : Value) (xs' : List Int) (lo' hi'' : Nat), OwI e2 lo' hi'' w u' xs' → OwI e2 lo' hi'' w' u' xs' := fun u' xs' lo' hi'' hr =>
    ⟨hr.own.keep fun k hk => hb k fun e' => h.own.ne_block hr.own h.ne e' hk, hr.lt, by rw [hz]; exact hr.hi_le⟩
  refine ⟨ho, fun k hk => Nat.lt_of_lt_of_le (h.lt k hk) hh, by rw [hz]; exact hu.hi_le, by simpa using h.len, fun j u' xs' hu' hx' => ?_, fun j j' u1 u2 hne h1 h2 k hk => ?_, h.ne⟩
  · by_cases hij : i = j
    · subst hij
      rw [List.getElem?_set_self hi1] at hu'
      rw [List.getElem?_set_self (by rw [← h.len]; exact hi1)] at hx'
      simp only [Option.some.injEq] at hu' hx'
      subst hu' hx'
      exact keep _ _ _ _ (hu.wide hlo (Nat.le_refl _) hu.hi_le)
    · rw [List.getElem?_set_ne hij] at hx' hu'
      exact keep _ _ _ _ ((h.rows j u' xs' hu' hx').wide (Nat.le_refl _) hh hu.hi_le)
  · have oldlt : ∀ (m : Nat) (u' : Value), vs[m]? = some u' → ∀ k, u'.ownBlock = some k → k < hi := fun m u' hm k hk => by
      obtain ⟨xs, hx⟩ : ∃ xs, xss[m]? = some xs := ⟨_, List.getElem?_eq_getElem (by rw [← h.len]; exact (List.getElem?_eq_some_iff.1 hm).1)⟩
      exact (h.rows m u' xs hm hx).lt k hk
    by_cases hij : i = j
    · subst hij
      rw [List.getElem?_set_self hi1] at h1
      rw [List.getElem?_set_ne hne] at h2
      simp only [Option.some.injEq] at h1
      subst h1
      intro hk2
      have a1 := (hu.own.block k hk).1
      have a2 := oldlt j' u2 h2 k hk2
      omega
    · rw [List.getElem?_set_ne hij] at h1
      by_cases hij' : i = j'
      · subst hij'
        rw [List.getElem?_set_self hi1] at h2
        simp only [Option.some.injEq] at h2
        subst h2
        intro hk2
        have a1 := (hu.own.block k hk2).1
        have a2 := oldlt j u1 h1 k hk
        omega
      · rw [List.getElem?_set_ne hij'] at h2
        exact h.apart j j' u1 u2 hne h1 h2 k hk

/-- A new row is appended. -/
theorem OwSSv.snoc {s : Nat} {u v' : Value} {ys : List Int} (h : OwSSv e e2 lo hi w v vs xss) (hu : OwI e2 s w.heap.size w u ys) (hs : hi ≤ s) (hlo : lo ≤ s) (ho : Own lo e w' v' (vs ++ [u])) (hz : w.heap.size ≤ w'.heap.size) (hb : ∀ k, k < w.heap.size → v.ownBlock ≠ some k → w'.heap[k]? = w.heap[k]?) :
    OwSSv e e2 lo w'.heap.size w' v' (vs ++ [u]) (xss ++ [ys]) := by
  have keep : ∀ (u' : Value) (xs' : List Int) (lo' hi'' : Nat), OwI e2 lo' hi'' w u' xs' → OwI e2 lo' hi'' w' u' xs' := fun u' xs' lo' hi'' hr =>
    ⟨hr.own.keep fun k hk => hb k (hr.own.block k hk).2 fun e' => h.own.ne_block hr.own h.ne e' hk, hr.lt, Nat.le_trans hr.hi_le hz⟩
  have hlen := h.len
  refine ⟨ho, fun k hk => (ho.block k hk).2, Nat.le_refl _, by simp [hlen], fun j u' xs' hu' hx' => ?_, fun j j' u1 u2 hne h1 h2 k hk => ?_, h.ne⟩
  · rw [List.getElem?_append] at hu' hx'
    rw [← hlen] at hx'
    split at hu'
    · rename_i hj
      rw [if_pos hj] at hx'
      exact (keep _ _ _ _ (h.rows j u' xs' hu' hx')).wide (Nat.le_refl _) (Nat.le_trans h.hi_le hz) (Nat.le_refl _)
    · rename_i hj
      rw [if_neg hj] at hx'
      have : j - vs.length = 0 := by have := (List.getElem?_eq_some_iff.1 hu').1; simp at this; omega
      rw [this] at hu' hx'
      simp at hu' hx'
      subst hu' hx'
      exact (keep _ _ _ _ hu).wide hlo hz (Nat.le_refl _)
  · have oldlt : ∀ (m : Nat) (u' : Value), vs[m]? = some u' → ∀ k, u'.ownBlock = some k → k < hi := fun m u' hm k hk => by
      obtain ⟨xs, hx⟩ : ∃ xs, xss[m]? = some xs := ⟨_, List.getElem?_eq_getElem (by rw [← h.len]; exact (List.getElem?_eq_some_iff.1 hm).1)⟩
      exact (h.rows m u' xs hm hx).lt k hk
    rw [List.getElem?_append] at h1 h2
    split at h1 <;> split at h2
    · exact h.apart j j' u1 u2 hne h1 h2 k hk
    · have : u2 = u := by have := List.mem_of_getElem? h2; simpa using this
      subst this
      intro hk2
      have a1 := (hu.own.block k hk2).1
      have a2 := oldlt j u1 h1 k hk
      omega
    · have : u1 = u := by have := List.mem_of_getElem? h1; simpa using this
      subst this
      intro hk2
      have a1 := (hu.own.block k hk).1
      have a2 := oldlt j' u2 h2 k hk2
      omega
    · exfalso
      have q1 := (List.getElem?_eq_some_iff.1 h1).1
      have q2 := (List.getElem?_eq_some_iff.1 h2).1
      simp at q1 q2
      omega
end

def OwSS (e e2 : TypeId) (lo hi : Nat) (w : World) (v : Value) (xss : List (List Int)) : Prop := ∃ vs, OwSSv e e2 lo hi w v vs xss

section
variable {e e2 : TypeId} {lo hi : Nat} {w w' : World} {v : Value} {xss : List (List Int)}
theorem OwSS.chg {a b : Nat} (h : OwSS e e2 lo hi w v xss) (hc : Chg a b w w') (hd : hi ≤ a ∨ b ≤ lo) : OwSS e e2 lo hi w' v xss := h.imp fun _ h => h.chg hc hd
theorem OwSS.rd (h : OwSS e e2 lo hi w v xss) : ISS lo hi w v xss := by obtain ⟨vs, h⟩ := h; exact h.rd
theorem OwSS.wide {lo' hi' : Nat} (h : OwSS e e2 lo hi w v xss) (h1 : lo' ≤ lo) (h2 : hi ≤ hi') (hz : hi' ≤ w.heap.size) : OwSS e e2 lo' hi' w v xss := h.imp fun _ h => h.wide h1 h2 hz
theorem OwSS.hi_le (h : OwSS e e2 lo hi w v xss) : hi ≤ w.heap.size := by obtain ⟨_, h⟩ := h; exact h.hi_le
theorem ISS.chg {a b : Nat} (h : ISS lo hi w v xss) (hc : Chg a b w w') (hd : hi ≤ a ∨ b ≤ lo) : ISS lo hi w' v xss := SL.chg IS.stable h hc hd
end

/-- A tableau as data. -/
abbrev TabD := List (List Int) × List Int
def IT (lo hi : Nat) (w : World) (v : Value) (x : TabD) : Prop := ∃ va vb, v = .agg #[va, vb] ∧ ISS lo hi w va x.1 ∧ IS lo hi w vb x.2
/-- A tableau that the call owns: its rows, its last list, all apart. -/
structure OwTv (e e2 : TypeId) (lo hi : Nat) (w : World) (va vb : Value) (vs : List Value) (x : TabD) : Prop where
  rows : OwSSv e e2 lo hi w va vs x.1
  last : OwI e2 lo hi w vb x.2
  apart : ∀ (i : Nat) u, vs[i]? = some u → ∀ k, u.ownBlock = some k → vb.ownBlock ≠ some k
def OwT (e e2 : TypeId) (lo hi : Nat) (w : World) (v : Value) (x : TabD) : Prop := ∃ va vb vs, v = .agg #[va, vb] ∧ OwTv e e2 lo hi w va vb vs x

section
variable {e e2 : TypeId} {lo hi a b : Nat} {w w' : World} {v : Value} {x : TabD}
theorem IT.chg (h : IT lo hi w v x) (hc : Chg a b w w') (hd : hi ≤ a ∨ b ≤ lo) : IT lo hi w' v x := by
  obtain ⟨va, vb, rfl, h1, h2⟩ := h
  exact ⟨va, vb, rfl, ISS.chg h1 hc hd, RI.chg h2 hc hd⟩
theorem IT.hi_le (h : IT lo hi w v x) : hi ≤ w.heap.size := by obtain ⟨_, _, _, _, h⟩ := h; exact h.hi_le
theorem OwT.hi_le (h : OwT e e2 lo hi w v x) : hi ≤ w.heap.size := by obtain ⟨_, _, _, _, h⟩ := h; exact h.last.hi_le
theorem OwT.chg (h : OwT e e2 lo hi w v x) (hc : Chg a b w w') (hd : hi ≤ a ∨ b ≤ lo) : OwT e e2 lo hi w' v x := by
  obtain ⟨va, vb, vs, rfl, h⟩ := h
  exact ⟨va, vb, vs, rfl, h.rows.chg hc hd, h.last.chg hc hd, h.apart⟩
theorem OwT.rd (h : OwT e e2 lo hi w v x) : IT lo hi w v x := by
  obtain ⟨va, vb, vs, rfl, h⟩ := h
  exact ⟨va, vb, rfl, h.rows.rd, h.last.rd⟩
/-- Rows first, the last list behind them (or the other way round). -/
theorem OwT.mk {m : Nat} {va vb : Value} (h1 : OwSS e e2 lo m w va x.1) (h2 : OwI e2 m hi w vb x.2) (hm : lo ≤ m) (hm2 : m ≤ hi) : OwT e e2 lo hi w (.agg #[va, vb]) x := by
  obtain ⟨vs, h1⟩ := h1
  refine ⟨va, vb, vs, rfl, h1.wide (Nat.le_refl _) hm2 h2.hi_le, h2.wide hm (Nat.le_refl _) h2.hi_le, fun i u hu k hk hk2 => ?_⟩
  obtain ⟨xs, hx⟩ : ∃ xs, x.1[i]? = some xs := ⟨_, List.getElem?_eq_getElem (by rw [← h1.len]; exact (List.getElem?_eq_some_iff.1 hu).1)⟩
  have a1 := (h1.rows i u xs hu hx).lt k hk
  have a2 := (h2.own.block k hk2).1
  omega
theorem OwT.mk' {m : Nat} {va vb : Value} (h1 : OwSS e e2 m hi w va x.1) (h2 : OwI e2 lo m w vb x.2) (hm : lo ≤ m) (hm2 : m ≤ hi) : OwT e e2 lo hi w (.agg #[va, vb]) x := by
  obtain ⟨vs, h1⟩ := h1
  refine ⟨va, vb, vs, rfl, h1.wide hm (Nat.le_refl _) h1.hi_le, h2.wide (Nat.le_refl _) hm2 h1.hi_le, fun i u hu k hk hk2 => ?_⟩
  obtain ⟨xs, hx⟩ : ∃ xs, x.1[i]? = some xs := ⟨_, List.getElem?_eq_getElem (by rw [← h1.len]; exact (List.getElem?_eq_some_iff.1 hu).1)⟩
  have a1 := ((h1.rows i u xs hu hx).own.block k hk).1
  have a2 := h2.lt k hk2
  omega
/-- A tableau's two cells. -/
theorem OwT.cells (h : OwT e e2 lo hi w v x) : ∃ a n c a' n' c', v = .agg #[.slice a n c, .slice a' n' c'] := by
  obtain ⟨va, vb, vs, rfl, h⟩ := h
  obtain ⟨a, c, h1, _⟩ := h.rows.own.shape
  obtain ⟨a', c', h2, _⟩ := h.last.own.shape
  exact ⟨a, _, c, a', _, c', by rw [h1, h2]⟩
theorem IT.cells (h : IT lo hi w v x) : ∃ a n c a' n' c', v = .agg #[.slice a n c, .slice a' n' c'] := by
  obtain ⟨va, vb, rfl, h1, h2⟩ := h
  obtain ⟨a, c, h1⟩ := h1.shape
  obtain ⟨a', c', h2⟩ := h2.shape
  exact ⟨a, _, c, a', _, c', by rw [h1, h2]⟩
theorem two_cells {a a' : Option Addr} {n c n' c' : Nat} : ∀ u ∈ [Value.slice a n c, .slice a' n' c'], u.oneCell' = true := fun u hu => by
  simp only [List.mem_cons, List.not_mem_nil, or_false] at hu
  rcases hu with rfl | rfl <;> rfl
theorem IT.wide {lo' hi' : Nat} (h : IT lo hi w v x) (h1 : lo' ≤ lo) (h2 : hi ≤ hi') (hz : hi' ≤ w.heap.size) : IT lo' hi' w v x := by
  obtain ⟨va, vb, rfl, h3, h4⟩ := h
  exact ⟨va, vb, rfl, h3.wide IS.stable h1 h2 hz, h4.wide RI.stable h1 h2 hz⟩
end
theorem OwT.wide {e e2 lo hi lo' hi' : Nat} {w : World} {v : Value} {x : TabD} (h : OwT e e2 lo hi w v x) (h1 : lo' ≤ lo) (h2 : hi ≤ hi') (hz : hi' ≤ w.heap.size) : OwT e e2 lo' hi' w v x := by
  obtain ⟨va, vb, vs, rfl, h⟩ := h
  exact ⟨va, vb, vs, rfl, h.rows.wide h1 h2 hz, h.last.wide h1 h2 hz, h.apart⟩
end Go.Fw
/- What the laws' own helpers compute: slices of slices, and tableaus. -/
namespace Go.Proofs
open Go Go.Fw Go.RowKit

def cntSS (xss : List (List Int)) : Nat := (xss.map List.length).sum
def tabCnt (x : TabD) : Nat := cntSS x.1 + x.2.length
theorem cntSS_cons (xs : List Int) (r : List (List Int)) : cntSS (xs :: r) = xs.length + cntSS r := by simp [cntSS]
theorem cntSS_take_succ {xss : List (List Int)} {i : Nat} (h : i < xss.length) : cntSS (xss.take (i + 1)) = cntSS (xss.take i) + xss[i].length := by
  unfold cntSS
  rw [List.take_succ_eq_append_getElem h, List.map_append, List.sum_append]
  simp
theorem cntSS_take_le (xss : List (List Int)) (i : Nat) : cntSS (xss.take i) ≤ cntSS xss := by
  induction xss generalizing i with
  | nil => simp [cntSS]
  | cons xs r ih =>
    cases i with
    | zero => simp [cntSS]
    | succ i => rw [List.take_succ_cons, cntSS_cons, cntSS_cons]; have := ih i; omega
theorem len_le_cnt {xss : List (List Int)} {xs : List Int} (h : xs ∈ xss) : xs.length ≤ cntSS xss := by
  induction xss with
  | nil => simp at h
  | cons y r ih => rw [cntSS_cons]; rcases List.mem_cons.1 h with rfl | h
                   · omega
                   · have := ih h; omega

/-- k, k + 1, .. through all the rows. -/
def markSS : Int → List (List Int) → List (List Int)
  | _, [] => []
  | k, xs :: r => countI k xs.length :: markSS (k + xs.length) r
theorem markSS_length (k : Int) (xss : List (List Int)) : (markSS k xss).length = xss.length := by induction xss generalizing k <;> simp_all [markSS]
theorem markSS_get (k : Int) (xss : List (List Int)) (i : Nat) (h : i < xss.length) : (markSS k xss)[i]? = some (countI (k + cntSS (xss.take i)) xss[i].length) := by
  induction xss generalizing k i with
  | nil => simp at h
  | cons xs r ih =>
    cases i with
    | zero => simp [markSS, cntSS]
    | succ i =>
      rw [markSS, List.getElem?_cons_succ, ih (k + xs.length) i (by simpa using h), List.take_succ_cons, cntSS_cons]
      simp only [List.getElem_cons_succ, Option.some.injEq]
      congr 1
      omega
theorem markSS_take_succ (k : Int) (xss : List (List Int)) (i : Nat) (h : i < xss.length) : markSS k (xss.take (i + 1)) = markSS k (xss.take i) ++ [countI (k + cntSS (xss.take i)) xss[i].length] := by
  induction xss generalizing k i with
  | nil => simp at h
  | cons xs r ih =>
    cases i with
    | zero => simp [markSS, cntSS]
    | succ i =>
      simp only [List.take_succ_cons, markSS, List.cons_append, List.cons.injEq, true_and, List.getElem_cons_succ, cntSS_cons]
      rw [ih (k + xs.length) i (by simpa using h)]
      congr 2
      congr 1
      omega
theorem markSS_step {k : Int} {xss : List (List Int)} {i : Nat} (h : i < xss.length) :
    (markSS k (xss.take i) ++ xss.drop i).set i (countI (k + cntSS (xss.take i)) xss[i].length) = markSS k (xss.take (i + 1)) ++ xss.drop (i + 1) := by
  have hk : (markSS k (xss.take i)).length = i := by rw [markSS_length, List.length_take]; omega
  rw [List.set_append_right _ _ (by omega), hk, Nat.sub_self, List.drop_eq_getElem_cons h, markSS_take_succ k xss i h]
  simp only [List.set_cons_zero, List.append_assoc, List.singleton_append]
theorem cntSS_markSS (k : Int) (xss : List (List Int)) : cntSS (markSS k xss) = cntSS xss := by
  induction xss generalizing k with
  | nil => rfl
  | cons xs r ih => rw [markSS, cntSS_cons, cntSS_cons, countI_length, ih]

def markT (k : Int) (x : TabD) : TabD := (markSS k x.1, countI (k + cntSS x.1) x.2.length)

/-- All lists of a tableau are small. -/
structure TabSmall (x : TabD) : Prop where
  outer : x.1.length ≤ 1048576
  cnt : tabCnt x ≤ 1048576
theorem TabSmall.last {x : TabD} (h : TabSmall x) : x.2.length ≤ 1048576 := by have := h.cnt; unfold tabCnt at this; omega
theorem TabSmall.row {x : TabD} (h : TabSmall x) {xs : List Int} (hx : xs ∈ x.1) : xs.length ≤ 1048576 := by have := h.cnt; have := len_le_cnt hx; unfold tabCnt at *; omega

end Go.Proofs
/- Tableaus in the laws: made afresh, compared, marked, looked at again. -/
namespace Go.Fw
open Go Go.RowKit
theorem Chg.widen {a b a' b' : Nat} {w w' : World} (h : Chg a b w w') (h1 : a' ≤ a) (h2 : b ≤ b') : Chg a' b' w w' :=
  ⟨h.os, h.tape, h.output, h.size, fun k hk hd => h.block k hk (by omega)⟩
theorem Chg.none {a b : Nat} {w w' : World} (h : Chg 0 0 w w') : Chg a b w w' := ⟨h.os, h.tape, h.output, h.size, fun k hk _ => h.block k hk (by omega)⟩
theorem Chg.trans {a b : Nat} {x y z : World} (h : Chg a b x y) (h' : Chg a b y z) : Chg a b x z :=
  ⟨h'.os.trans h.os, h'.tape.trans h.tape, h'.output.trans h.output, Nat.le_trans h.size h'.size, fun k hk hd => (h'.block k (Nat.lt_of_lt_of_le hk h.size) hd).trans (h.block k hk hd)⟩
theorem Blk.chg0 {w w' : World} {b : Nat} {cs : List Value} {t : TypeId} (h : Blk w b cs t) (hc : Chg 0 0 w w') : Blk w' b cs t := h.keep (hc.block b h.lt (by omega))
/-- Another slice's numbers are written: the slice of slices stands. -/
theorem OwSSv.keepBut {e e2 : TypeId} {lo lo' hi : Nat} {w w' : World} {v u : Value} {vs us : List Value} {xss : List (List Int)} (h : OwSSv e e2 lo hi w v vs xss) (hu : Own lo' e2 w u us)
    (ap : ∀ (i : Nat) u', vs[i]? = some u' → ∀ k, u'.ownBlock = some k → u.ownBlock ≠ some k) (hz : w'.heap.size = w.heap.size) (hs : ∀ j, u.ownBlock ≠ some j → w'.heap[j]? = w.heap[j]?) : OwSSv e e2 lo hi w' v vs xss :=
  ⟨h.own.keep fun k hk => hs k (h.own.ne_block hu h.ne hk), h.lt, by rw [hz]; exact h.hi_le, h.len, fun i u' xs hu' hx => by
    have hr := h.rows i u' xs hu' hx
    exact ⟨hr.own.keep fun k hk => hs k (ap i u' hu' k hk), hr.lt, by rw [hz]; exact h.hi_le⟩, h.apart, h.ne⟩
section
variable {P : Program} {N : Nat} {Q : Exit → Fr → World → Prop} {S : World → Prop} {l : Fr} {w : World} {ops : Array Oper} {K : Fr → World → Prop}
variable {d : Nat} {ty : TypeId} {pos : String} {af : Array Edge} {g : Option (Nat × Bool)}
/-- a != b of two equal truth values. -/
theorem o_neqB {x y : Operand} {t t' : TypeId} {a : Bool} (hu : P.underlying t = some .bool) (hx : ev l x = some (.bool a)) (hy : ev l y = some (.bool a)) (k : K ((d, .bool false) :: l) w)
    (hg : wantedL ops l g = some true := by rfl) (hd : Nat.blt d N = true := by rfl) : OpW P N ops Q ⟨some d, .binOp .neq t x y t', ty, pos, af, g⟩ l w K :=
  OpW.val (fun fr ha => by
    have h2 : (Op.equal t (.bool a) (.bool a)).run P w = .ok true w := by have := run_equalIn_bool' (P := P) w 9999 t a a hu; rw [beq_self_eq_true] at this; exact this
    simp [execOp, ha.ev hx, ha.ev hy, binOp, eqGuard, h2]) k hg hd
/-- A struct is read whole, in a drawn region. -/
theorem q_loadS {t : TypeId} {n b : Nat} {z : Array Value} [h : StructTy P t n z] {x : Operand} {cs : List Value} {tt : TypeId} (hx : ev l x = some (.pointer (some ⟨b, 0, none⟩))) (hb : ∀ w, S w → Blk w b cs tt) (hn : cs.length = n)
    (hg : wantedL ops l g = some true := by rfl) (hd : Nat.blt d N = true := by rfl) : QW P N ops S ⟨some d, .load t x, ty, pos, af, g⟩ l d (.agg cs.toArray) :=
  QW.mk (fun fr ha w hS => by
    obtain ⟨fs, hu⟩ := h.und
    have hs : (P.info? t).map (·.size) = some cs.toArray.size := by
      have := h.size
      cases hi : P.info? t <;> simp_all
    simp [execOp, ha.ev hx, Instr.loadAt, Instr.sureAddr, run_loadVar_row w b tt t cs.toArray (0, 0) _ (hb w hS) hu rfl hs]) hg hd
end
section
variable {P : Program} {N : Nat} {Q : Exit → Fr → World → Prop} {S : World → Prop} {l : Fr} {w : World} {ops : Array Oper} {sc : List (Nat × Bool)}
/-- x.f of a variable that is a block, in a drawn region. -/
theorem WS.fld {m m' s t f off b d1 d2 : Nat} [FieldTy P s f off] [CellTy P t] {x x2 : Operand} {cs : List Value} {tt : TypeId} {v : Value} {ty1 ty2 : TypeId} {pos1 pos2 : String} {af1 af2 : Array Edge} {g1 g2 : Option (Nat × Bool)}
    (hi1 : ops[m]? = some ⟨some d1, .fieldAddr s x f, ty1, pos1, af1, g1⟩) (hj1 : ops[m']? = some ⟨some d2, .load t x2, ty2, pos2, af2, g2⟩)
    (hb : ∀ w', S w' → Blk w' b cs tt) (hS : S w) (k : ∀ p, WS P N ops Q S sc ((d2, v) :: (d1, p) :: l) w) (hv : cs[off]? = some v := by rfl) (hx : ev l x = some (.pointer (some ⟨b, 0, none⟩)) := by rfl) (h2 : x2 = .tmp d1 := by rfl)
    (hg1 : wantedL ops l g1 = some true := by rfl) (hg2 : ∀ p, wantedL ops ((d1, .pointer (some p)) :: l) g2 = some true := by intro _; rfl) (hd1 : Nat.blt d1 N = true := by rfl) (hd2 : Nat.blt d2 N = true := by rfl) :
    WS P N ops Q S ((m, true) :: (m', true) :: sc) l w := by
  subst h2
  refine WS.q hi1 (q_field hx hg1 hd1) hS ?_
  have ha : (⟨b, 0, none⟩ : Addr).add off = ⟨b, off, none⟩ := by unfold Addr.add; split <;> simp_all
  rw [ha]
  exact WS.q hj1 (q_load (look_cons_self _ _ _) (fun w' hw' => (hb w' hw').cell hv) (hg2 _) hd2) hS (k _)
end
section
variable {P : Program} {N : Nat} {Q : Exit → Fr → World → Prop} {S : World → Prop} {l : Fr} {w : World} {ops : Array Oper} {sc : List (Nat × Bool)}
/-- x.f = u, the last of a drawn region. -/
theorem WS.fldst {m m' s t f off b d1 : Nat} [FieldTy P s f off] [CellTy P t] {x x2 y : Operand} {cs : List Value} {tt : TypeId} {u old : Value} {ty1 ty2 : TypeId} {pos1 pos2 : String} {af1 af2 : Array Edge}
    (hi1 : ops[m]? = some ⟨some d1, .fieldAddr s x f, ty1, pos1, af1, none⟩) (hj1 : ops[m' - 1000]? = some ⟨none, .store t x2 y, ty2, pos2, af2, none⟩)
    (hb : Blk w b cs tt) (hS : S w) (k : ∀ p w1, Blk w1 b (cs.set off u) tt → But b w w1 → WS P N ops Q S sc ((d1, p) :: l) w1) (hv : cs[off]? = some old := by rfl) (hx : ev l x = some (.pointer (some ⟨b, 0, none⟩)) := by rfl) (hy : ∀ p, ev ((d1, p) :: l) y = some u := by intro _; rfl) (hu : u.oneCell' = true := by rfl) (h2 : x2 = .tmp d1 := by rfl)
    (hd1 : Nat.blt d1 N = true := by rfl) (hge : Nat.ble 1000 m' = true := by rfl) : WS P N ops Q S ((m, true) :: (m', false) :: sc) l w := by
  subst h2
  refine WS.q hi1 (q_field hx rfl hd1) hS ?_
  have ha : (⟨b, 0, none⟩ : Addr).add off = ⟨b, off, none⟩ := by unfold Addr.add; split <;> simp_all
  rw [ha]
  exact WS.last hj1 (o_store (look_cons_self _ _ _) (hy _) (hb.cell hv) (hb.free off) (k _ _ (hb.set off u) (But.setCell w b off u)) hu rfl) hge
end
theorem Chg.thenBelow {a b : Nat} {x y z : World} (h : Chg a b x y) (h' : Below x.heap.size y z) : Chg a b x z :=
  ⟨h'.os.trans h.os, h'.tape.trans h.tape, h'.output.trans h.output, Nat.le_trans h.size h'.size, fun k hk hd => (h'.block k hk).trans (h.block k hk hd)⟩
theorem Chg.thenBut {a b c : Nat} {x y z : World} (h : Chg a b x y) (h' : But c y z) (h1 : a ≤ c) (h2 : c < b) : Chg a b x z :=
  ⟨h'.os.trans h.os, h'.tape.trans h.tape, h'.output.trans h.output, by rw [h'.size]; exact h.size, fun k hk hd => (h'.block k (by omega)).trans (h.block k hk hd)⟩
theorem Chg.refl (a b : Nat) (w : World) : Chg a b w w := ⟨rfl, rfl, rfl, Nat.le_refl _, fun _ _ _ => rfl⟩
/-- What a call gives: a new tableau and a code. -/
def ResT (e e2 : TypeId) (w : World) (r : Value) (w' : World) (x : TabD × Int) : Prop := ∃ v, r = .tuple #[v, .int .i64 x.2] ∧ OwT e e2 w.heap.size w'.heap.size w' v x.1 ∧ Chg 0 0 w w'
end Go.Fw

namespace Go.Proofs
open Go Go.Fw Go.RowKit
theorem markT_cnt (k : Int) (x : TabD) : tabCnt (markT k x) = tabCnt x := by simp [markT, tabCnt, cntSS_markSS, countI_length]

end Go.Proofs
/- More operations: x[i] = u as a drawn region's last; a slice compared with nil. -/
namespace Go.Fw
open Go Go.RowKit
section
variable {P : Program} {N : Nat} {Q : Exit → Fr → World → Prop} {S : World → Prop} {l : Fr} {w : World} {ops : Array Oper} {sc : List (Nat × Bool)}
theorem WS.ixstore {m m' : Nat} {t t2 e e' : TypeId} {z : Value} {bytes : Nat} [SliceTy P t e z bytes] [CellTy P t2] {x y x2 y2 : Operand} {kk : IntKind} {i : Int} {j : Nat} {d1 lo : Nat} {v u : Value} {us : List Value} {ty1 ty2 : TypeId} {pos1 pos2 : String} {af1 af2 : Array Edge}
    (hi1 : ops[m]? = some ⟨some d1, .indexAddr t x y, ty1, pos1, af1, none⟩) (hj1 : ops[m' - 1000]? = some ⟨none, .store t2 x2 y2, ty2, pos2, af2, none⟩) (hS : S w)
    (hown : Own lo e' w v us) (h1 : j < us.length)
    (k : ∀ p w1, Own lo e' w1 v (us.set j u) → Below lo w w1 → w1.heap.size = w.heap.size → (∀ k, v.ownBlock ≠ some k → w1.heap[k]? = w.heap[k]?) → WS P N ops Q S sc ((d1, p) :: l) w1)
    (hx : ev l x = some v := by rfl) (hy : ev l y = some (.int kk i) := by rfl) (hij : i = (j : Int) := by first | rfl | omega) (hy2 : ∀ p, ev ((d1, p) :: l) y2 = some u := by intro _; rfl) (hu : u.oneCell' = true := by rfl) (h2 : x2 = .tmp d1 := by rfl)
    (hd1 : Nat.blt d1 N = true := by rfl) (hge : Nat.ble 1000 m' = true := by rfl) : WS P N ops Q S ((m, true) :: (m', false) :: sc) l w := by
  subst h2
  obtain ⟨g, c, rfl, hg1, hg2, hcell, hfz, hob⟩ := hown.cell (i := j) (List.getElem?_eq_getElem h1)
  subst hij
  refine WS.q hi1 (q_ix hx hy (by omega) (by omega) rfl hd1) hS ?_
  rw [Nat.zero_add, Int.toNat_natCast]
  refine WS.last hj1 (o_store (look_cons_self _ _ _) (hy2 _) hcell hfz ?_ hu rfl) hge
  exact k _ _ (Own.setCell hown j u) ((But.setCell w g j u).below hg1) (by simp) (fun k hk => (But.setCell w g j u).block k (fun e => hk (by rw [hob, e])))
end
section
variable {P : Program} {N : Nat} {Q : Exit → Fr → World → Prop} {l : Fr} {w : World} {ops : Array Oper} {K : Fr → World → Prop}
variable {d : Nat} {ty : TypeId} {pos : String} {af : Array Edge} {g : Option (Nat × Bool)}
/-- x == nil. -/
theorem o_eqNil {t e t' : TypeId} {z : Value} {bytes : Nat} [h : SliceTy P t e z bytes] {x y : Operand} {a : Option Addr} {n c : Nat} (hx : ev l x = some (.slice a n c)) (hy : ev l y = some (.slice none 0 0)) (k : K ((d, .bool a.isNone) :: l) w)
    (hg : wantedL ops l g = some true := by rfl) (hd : Nat.blt d N = true := by rfl) : OpW P N ops Q ⟨some d, .binOp .eql t x y t', ty, pos, af, g⟩ l w K :=
  OpW.val (fun fr ha => by
    have h2 : (Op.equal t (.slice a n c) (.slice none 0 0)).run P w = .ok a.isNone w := by
      have key : ∀ m, (Op.equalIn (m + 1) t (.slice a n c) (.slice none 0 0)).run P w = .ok a.isNone w := fun m => by
        cases a <;> simp [Op.equalIn, run_underlying h.und]
      exact key 9999
    simp [execOp, ha.ev hx, ha.ev hy, binOp, eqGuard, h2]) k hg hd
end
end Go.Fw
/- Append, with the block of its result told: the old one or a new one. -/
namespace Go.Fw
open Go Go.RowKit
section
variable {P : Program} {N : Nat} {Q : Exit → Fr → World → Prop} {l : Fr} {w : World} {ops : Array Oper} {K : Fr → World → Prop}
variable {d : Nat} {ty : TypeId} {pos : String} {af : Array Edge} {g : Option (Nat × Bool)}

theorem append_block {t e : TypeId} {z : Value} {bytes : Nat} (h : SliceTy P t e z bytes) {lo : Nat} {v vx : Value} {us news : List Value} (hown : Own lo e w v us) (hsrc : Src w vx news) (h1 : ∀ u ∈ news, u.oneCell' = true)
    (hm : us.length + news.length ≤ maxLen) (hb : (us.length + news.length) * bytes ≤ 140737488355328) (hne : news ≠ []) {v' : Value} {w' : World} (hr : (Builtin.append_ #[t, t] ty #[v, vx]).run P w = .ok v' w') :
    v'.ownBlock = v.ownBlock ∨ v'.ownBlock = some w.heap.size := by
  obtain ⟨i0, hi, hz0, hz1, hz2⟩ := info_parts h.info
  obtain ⟨a, c, rfl, hs⟩ := hsrc
  cases a with
  | none =>
    cases news with
    | nil => exact absurd rfl hne
    | cons u r => obtain ⟨b, o, he, _⟩ := hs 0 u (by simp); cases he
  | some ad =>
    have hnews : ∀ j u, news[j]? = some u → w.cell? (ad.add j) = some u := fun j u hu => by
      obtain ⟨b, o, he, hc⟩ := hs j u hu
      simp only [Option.some.injEq] at he
      subst he
      have : (⟨b, o, none⟩ : Addr).add j = ⟨b, o + j, none⟩ := by unfold Addr.add; split <;> simp_all
      rw [this]; exact hc
    have hpos : 0 < news.length := by cases news with
      | nil => exact absurd rfl hne
      | cons u r => simp
    have hl1 : news.length = news.length * i0.size := by rw [hz1, Nat.mul_one]
    obtain ⟨hxs, ⟨rfl, h0⟩ | ⟨g, cap, cur, rfl, hbg, hg, hnc, hcm, hcs, htake⟩⟩ := hown
    · have hr2 := run_append_nil (P := P) w t ty e i0 z h.und hi hz0 ad news.length c news hl1 hnews hpos (by have hmx : maxLen = 9223372036854775807 := rfl; omega) (by rw [hz2]; rw [h0, Nat.zero_add] at hb; omega)
      rw [hr] at hr2
      simp only [Result.ok.injEq] at hr2
      right
      rw [hr2.1]
      rfl
    · by_cases hroom : us.length + news.length ≤ cap
      · have hr2 := run_append_room (P := P) w t ty e i0 h.und hi g us.length cap cur hg ad news.length c news hl1 hnews h1 hroom (by rw [hz1, hcs]; omega)
        rw [hr] at hr2
        simp only [Result.ok.injEq] at hr2
        left
        rw [hr2.1]
        rfl
      · have holds : ∀ j u, us[j]? = some u → w.cell? ((⟨g, 0, none⟩ : Addr).add j) = some u := World.ownsRow.cells (base := lo) (e := e) (size := 1) (v := .slice (some ⟨g, 0, none⟩) us.length cap) (n := us.length) ⟨hxs, .inr ⟨g, cap, cur, rfl, hbg, hg, hnc, hcm, hcs, htake⟩⟩ rfl
        have hr2 := run_append_grow (P := P) w t ty e i0 z h.und hi hz0 ⟨g, 0, none⟩ us.length cap us (by rw [hz1, Nat.mul_one]) holds ad news.length c news hl1 hnews (by omega) (by unfold maxLen at hm; omega) (growslice_fits (by omega) (by rw [hz2]; exact hb))
        rw [hr] at hr2
        simp only [Result.ok.injEq] at hr2
        right
        rw [hr2.1]
        rfl
/-- append(s, x): the two operations of it; the result's block is the old one or a new one. -/
theorem o_append1K {t e : TypeId} {z : Value} {bytes : Nat} [h : SliceTy P t e z bytes] {lo d1 d2 : Nat} {s x y : Operand} {v u : Value} {us : List Value} {rest : List Oper} {ty1 ty2 : TypeId} {pos1 pos2 : String} {af1 af2 : Array Edge}
    (hs : ∀ u', ev ((d1, u') :: l) s = some v) (hx : ev l x = some u) (hown : Own lo e w v us) (h1 : u.oneCell' = true)
    (hm : us.length + 1 ≤ maxLen) (hb : (us.length + 1) * bytes ≤ 140737488355328) (hlo : lo ≤ w.heap.size)
    (k : ∀ p v' w', Own lo e w' v' (us ++ [u]) → Below lo w w' → (∀ k, k < w.heap.size → v.ownBlock ≠ some k → w'.heap[k]? = w.heap[k]?) → w.heap.size < w'.heap.size → (∀ k, v'.ownBlock = some k → v.ownBlock = some k ∨ w.heap.size ≤ k) → WL P N ops Q rest ((d2, v') :: (d1, p) :: l) w') (hy : y = .tmp d1 := by rfl)
    (hd1 : Nat.blt d1 N = true := by rfl) (hd2 : Nat.blt d2 N = true := by rfl) :
    WL P N ops Q (⟨some d1, .buildSlice t 1 #[(0, x)], ty1, pos1, af1, none⟩ :: ⟨some d2, .call { callee := .builtin .append, args := #[s, y], argTypes := #[t, t] }, ty2, pos2, af2, none⟩ :: rest) l w := by
  subst hy
  refine WL.step (o_lit (us := [u]) (by rfl) (by simp [evs, hx]) rfl (by decide) (by simpa using h1) ?_ rfl hd1)
  intro v1 w1 hown1 hb1 hz1 hv1
  have hown' : Own lo e w1 v us := hown.below hb1 (Nat.le_refl _)
  obtain ⟨v', w', hr, h2, h3, h4⟩ := run_append (ty := ty2) h hown' hown1.src (by simpa using h1) (by simpa using hm) (by simpa using hb) (by omega)
  have hbk := append_block h hown' hown1.src (by simpa using h1) (by simpa using hm) (by simpa using hb) (by simp) hr
  have hbl := grown_below h3 (show lo ≤ w1.heap.size by omega) fun k hk => (hown'.block k hk).1
  refine WL.step (OpW.val (w' := w') (v := v') (fun fr ha => ?_) ?_ rfl hd2)
  · have hx2 : fr.eval (.tmp d1) = v1 := ha.ev (show ev ((d1, v1) :: l) (.tmp d1) = some v1 from look_cons_self _ _ _)
    simp [execOp, resolve, invoke, builtin, ha.ev (hs v1), hx2, hr]
  · refine k v1 v' w' h2 ((Below.mono hb1 (by omega)).trans hbl) (fun k hk hne => ?_) (by have := h3.size; omega) (fun k hk => ?_)
    · rw [h3.block k (by omega) (fun e => hne e.symm), hb1.block k hk]
    · rcases hbk with h5 | h5
      · left; rw [← h5]; exact hk
      · right
        rw [h5] at hk
        simp only [Option.some.injEq] at hk
        omega
/-- append(s, x...), with the block of its result told. -/
theorem o_appendK {t e : TypeId} {z : Value} {bytes : Nat} [h : SliceTy P t e z bytes] {lo : Nat} {s x : Operand} {v vx : Value} {us news : List Value} (hs : ev l s = some v) (hx : ev l x = some vx) (hown : Own lo e w v us) (hsrc : Src w vx news) (h1 : ∀ u ∈ news, u.oneCell' = true)
    (hm : us.length + news.length ≤ maxLen) (hb : (us.length + news.length) * bytes ≤ 140737488355328) (hlo : lo ≤ w.heap.size) (hne : news ≠ [])
    (k : ∀ v' w', Own lo e w' v' (us ++ news) → w.grownBy w' v.ownBlock → Below lo w w' → (∀ k, v'.ownBlock = some k → v.ownBlock = some k ∨ w.heap.size ≤ k) → K ((d, v') :: l) w')
    (hg : wantedL ops l g = some true := by rfl) (hd : Nat.blt d N = true := by rfl) : OpW P N ops Q ⟨some d, .call { callee := .builtin .append, args := #[s, x], argTypes := #[t, t] }, ty, pos, af, g⟩ l w K := by
  obtain ⟨v', w', hr, h2, h3, h4⟩ := run_append (ty := ty) h hown hsrc h1 hm hb hlo
  have hbk := append_block h hown hsrc h1 hm hb hne hr
  refine OpW.val (w' := w') (v := v') (fun fr ha => ?_) (k v' w' h2 h3 (grown_below h3 hlo fun k hk => (hown.block k hk).1) (fun k hk => ?_)) hg hd
  · simp [execOp, resolve, invoke, builtin, ha.ev hs, ha.ev hx, hr]
  · rcases hbk with h5 | h5
    · left; rw [← h5]; exact hk
    · right
      rw [h5] at hk
      simp only [Option.some.injEq] at hk
      omega
end
theorem IT.below {lo hi B : Nat} {w w' : World} {v : Value} {x : TabD} (h : IT lo hi w v x) (hb : Below B w w') (hB : hi ≤ B) : IT lo hi w' v x := by
  obtain ⟨va, vb, rfl, h1, h2⟩ := h
  exact ⟨va, vb, rfl, h1.below IS.stable hb hB, h2.below RI.stable hb hB⟩
end Go.Fw
/- Slices from an index on; copy into a slice that the call owns; operations on words whose values are written out. -/
namespace Go.Fw
open Go Go.RowKit
theorem wrap_u64 {z : Int} (h0 : 0 ≤ z) (h1 : z ≤ 18446744073709551615) : IntKind.u64.wrap z = z := by rw [IntKind.wrap_u64]; omega
/-- Where x[i:] begins. -/
def lowAddr (a : Option Addr) (c i : Nat) : Option Addr := if c = i then a else a.map (·.add i)
section
variable {P : Program} {N : Nat} {Q : Exit → Fr → World → Prop} {S : World → Prop} {l : Fr} {w : World} {ops : Array Oper} {K : Fr → World → Prop}
variable {d : Nat} {ty : TypeId} {pos : String} {af : Array Edge} {g : Option (Nat × Bool)}
theorem run_sliceL {t e : TypeId} {z : Value} {bytes : Nat} [h : SliceTy P t e z bytes] {a : Option Addr} {n c i : Nat} {kk : IntKind} (hi : i ≤ n) :
    (Instr.sliceAt t (.slice a n c) (some (.int kk (i : Nat))) none none).run P w = .ok (.slice (lowAddr a c i) (n - i) (c - i)) w := by
  have he : P.elem t = e := by have := h.und; simp [Program.elem, this]
  have hu : P.underlying t = some (.slice (P.elem t)) := by rw [he]; exact h.und
  rw [run_sliceAt_slice w t _ _ _ _ hu, run_slice_l w t a n c hu kk (i : Nat) (by omega) (by omega), he, h.size]
  simp [sliced, lowAddr]
/-- x[i:]. -/
theorem o_sliceL {t e : TypeId} {z : Value} {bytes : Nat} [SliceTy P t e z bytes] {x y : Operand} {a : Option Addr} {n c i : Nat} {kk : IntKind} (hx : ev l x = some (.slice a n c)) (hy : ev l y = some (.int kk (i : Nat))) (hi : i ≤ n)
    (k : K ((d, .slice (lowAddr a c i) (n - i) (c - i)) :: l) w) (hg : wantedL ops l g = some true := by rfl) (hd : Nat.blt d N = true := by rfl) : OpW P N ops Q ⟨some d, .slice t x (some y) none none, ty, pos, af, g⟩ l w K :=
  OpW.val (fun fr ha => by simp [execOp, ha.ev hx, ha.ev hy, run_sliceL (P := P) (t := t) hi]) k hg hd
theorem q_sliceL {t e : TypeId} {z : Value} {bytes : Nat} [SliceTy P t e z bytes] {x y : Operand} {a : Option Addr} {n c i : Nat} {kk : IntKind} (hx : ev l x = some (.slice a n c)) (hy : ev l y = some (.int kk (i : Nat))) (hi : i ≤ n)
    (hg : wantedL ops l g = some true := by rfl) (hd : Nat.blt d N = true := by rfl) : QW P N ops S ⟨some d, .slice t x (some y) none none, ty, pos, af, g⟩ l d (.slice (lowAddr a c i) (n - i) (c - i)) :=
  QW.mk (fun fr ha _ _ => by simp [execOp, ha.ev hx, ha.ev hy, run_sliceL (P := P) (t := t) hi]) hg hd
theorem SL.drop {α : Type} {R : Nat → Nat → World → Value → α → Prop} {lo hi : Nat} {xs : List α} {a : Option Addr} {n c i : Nat} (h : SL R lo hi w (.slice a n c) xs) (hi' : i ≤ xs.length) : SL R lo hi w (.slice (lowAddr a c i) (n - i) (c - i)) (xs.drop i) := by
  obtain ⟨hz, a', c', hv, hl, hn, h⟩ := h
  simp only [Value.slice.injEq] at hv
  obtain ⟨rfl, rfl, rfl⟩ := hv
  refine ⟨hz, lowAddr a c i, c - i, by rw [List.length_drop], by rw [List.length_drop]; omega, ⟨by rw [List.length_drop]; omega, fun hno => ?_⟩, fun j x hx => ?_⟩
  · unfold lowAddr at hno
    split at hno
    · omega
    · cases ha : a with
      | none => have := hn.2 ha; omega
      | some ad => rw [ha] at hno; simp at hno
  · rw [List.getElem?_drop] at hx
    obtain ⟨b, o, u, ha, h1, h2, hc, hr⟩ := h _ x hx
    have hlt := (List.getElem?_eq_some_iff.1 hx).1
    subst ha
    refine ⟨b, o + i, u, ?_, h1, h2, by rw [Nat.add_assoc]; exact hc, hr⟩
    unfold lowAddr
    rw [if_neg (by omega)]
    simp [Addr.add]
/-- An operation of two words, by its value. -/
theorem o_bin {op : BinOp} {x y : Operand} {t t' : TypeId} {k1 k2 : IntKind} {a b : Int} {v : Value} (hx : ev l x = some (.int k1 a)) (hy : ev l y = some (.int k2 b)) (hr : ∀ w, (binOp op t (.int k1 a) (.int k2 b)).run P w = .ok v w) (hq : ∀ w, (eqGuard op t x y (.int k1 a) (.int k2 b)).run P w = .ok () w)
    (k : K ((d, v) :: l) w) (hg : wantedL ops l g = some true := by rfl) (hd : Nat.blt d N = true := by rfl) : OpW P N ops Q ⟨some d, .binOp op t x y t', ty, pos, af, g⟩ l w K :=
  OpW.val (fun fr ha => by simp [execOp, ha.ev hx, ha.ev hy, hq, hr]) k hg hd
/-- A conversion between kinds of whole numbers. -/
theorem o_convK {t u : TypeId} {k1 k2 : IntKind} [h1 : IntTy P t k1] [h2 : IntTy P u k2] {x : Operand} {a b : Int} (hx : ev l x = some (.int k1 a)) (hb : k2.wrap a = b) (k : K ((d, .int k2 b) :: l) w)
    (hg : wantedL ops l g = some true := by rfl) (hd : Nat.blt d N = true := by rfl) : OpW P N ops Q ⟨some d, .convert t u x, ty, pos, af, g⟩ l w K :=
  OpW.val (fun fr ha => by simp [execOp, ha.ev hx, convert, run_underlying h1.und, run_underlying h2.und, Conv.intToInt, hb]) k hg hd
theorem copy_own {t e : TypeId} {z : Value} {bytes : Nat} (h : SliceTy P t e z bytes) {lo b o dLen dCap sLen sCap n c : Nat} {a : Addr} {us cs : List Value} {e' : TypeId} (hown : Own lo e' w (.slice (some ⟨b, 0, none⟩) n c) us)
    (hn : cs.length = Nat.min sLen dLen) (hsrc : ∀ j v, cs[j]? = some v → w.cell? (a.add j) = some v) (hfit : o + cs.length ≤ us.length) (h1 : ∀ v ∈ cs, v.oneCell' = true) :
    ∃ w1, (Builtin.copy_ #[t, t] ty #[.slice (some ⟨b, o, none⟩) dLen dCap, .slice (some a) sLen sCap]).run P w = .ok (goInt cs.length) w1 ∧
      Own lo e' w1 (.slice (some ⟨b, 0, none⟩) n c) (us.take o ++ cs ++ us.drop (o + cs.length)) ∧ Below lo w w1 ∧ w1.heap.size = w.heap.size := by
  obtain ⟨i0, hi, hz0, hz1, hz2⟩ := info_parts h.info
  obtain ⟨hxs, ⟨he, _⟩ | ⟨g', cap, cur, he, hbg, hg, hnc, hcm, hcs, htake⟩⟩ := hown
  · cases he
  · simp only [Value.slice.injEq, Option.some.injEq, Addr.mk.injEq] at he
    obtain ⟨⟨rfl, _⟩, rfl, rfl⟩ := he
    obtain ⟨n, hul⟩ : ∃ n, n = us.length := ⟨_, rfl⟩
    refine ⟨_, run_copy_row (P := P) w t t ty e b o dLen dCap a sLen sCap cur e' cs h.und (by rw [hi]; simp [hz1]) hg hn hsrc (by omega) h1, ⟨?_, .inr ⟨b, c, _, by simp only [Value.slice.injEq, true_and, and_true]; simp; omega, hbg, setRow_heap w b cur _ e' _ hg, ?_, hcm, ?_, ?_⟩⟩, ⟨by simp, by simp, by simp, by simp, fun k hk => setRow_other w b k _ (by omega)⟩, by simp⟩
    · simp
    · simp; omega
    · simp; omega
    · have e1 : (us.take o ++ cs ++ us.drop (o + cs.length)).length = n := by simp; omega
      rw [e1]
      have e2 : us = cur.toList.take n := by rw [hul]; rw [Nat.mul_one] at htake; exact htake.symm
      clear htake
      rw [← hul] at hnc hfit
      clear hul e1 hxs
      rw [e2]
      simp only [Nat.mul_one]
      apply List.ext_getElem?
      intro j
      have hcl : cur.toList.length = c := by simp; omega
      by_cases hj : j < n
      · rw [List.getElem?_take, if_pos hj]
        by_cases h5 : j < o
        · rw [List.append_assoc, List.append_assoc, List.getElem?_append_left (by simp; omega), List.getElem?_append_left (by simp; omega), List.getElem?_take, if_pos h5, List.getElem?_take, if_pos h5, List.getElem?_take, if_pos hj]
        · by_cases h6 : j < o + cs.length
          · rw [List.getElem?_append_left (by simp; omega), List.getElem?_append_right (by simp; omega), List.getElem?_append_left (by simp; omega), List.getElem?_append_right (by simp; omega)]
            simp only [List.length_take]
            congr 1
            omega
          · rw [List.getElem?_append_right (by simp; omega), List.getElem?_append_right (by simp; omega), List.getElem?_drop, List.getElem?_drop, List.getElem?_take, if_pos (by simp; omega)]
            congr 1
            simp
            omega
      · rw [List.getElem?_eq_none (by simp; omega), List.getElem?_eq_none (by simp; omega)]
/-- copy into a slice that the call owns. -/
theorem o_copy {t e : TypeId} {z : Value} {bytes : Nat} [h : SliceTy P t e z bytes] {lo b o dLen dCap sLen sCap n c : Nat} {x y : Operand} {a : Addr} {us cs : List Value} {e' : TypeId} (hx : ev l x = some (.slice (some ⟨b, o, none⟩) dLen dCap)) (hy : ev l y = some (.slice (some a) sLen sCap)) (hown : Own lo e' w (.slice (some ⟨b, 0, none⟩) n c) us)
    (hn : cs.length = Nat.min sLen dLen) (hsrc : ∀ j v, cs[j]? = some v → w.cell? (a.add j) = some v) (hfit : o + cs.length ≤ us.length) (h1 : ∀ v ∈ cs, v.oneCell' = true)
    (k : ∀ w1, Own lo e' w1 (.slice (some ⟨b, 0, none⟩) n c) (us.take o ++ cs ++ us.drop (o + cs.length)) → Below lo w w1 → w1.heap.size = w.heap.size → K ((d, .int .i64 cs.length) :: l) w1)
    (hg : wantedL ops l g = some true := by rfl) (hd : Nat.blt d N = true := by rfl) : OpW P N ops Q ⟨some d, .call { callee := .builtin .copy, args := #[x, y], argTypes := #[t, t] }, ty, pos, af, g⟩ l w K := by
  obtain ⟨w1, hr, h2, h3, h4⟩ := copy_own (ty := ty) (dCap := dCap) (sCap := sCap) h hown hn hsrc hfit h1
  refine OpW.val (w' := w1) (v := .int .i64 cs.length) (fun fr ha => ?_) (k w1 h2 h3 h4) hg hd
  simp [execOp, resolve, invoke, builtin, ha.ev hx, ha.ev hy, hr, goInt]
end
end Go.Fw
/- Regions in which two operations that do something are ready at a time: a tree of orders. -/
namespace Go.Fw
open Go Go.RowKit

/-- What may come next: q: an operation that only looks, taken first; o: the only one that is ready; two: two are ready, and both orders are walked. -/
inductive Tr where
  | nil
  | q (i : Nat) (s : Tr)
  | o (i : Nat) (s : Tr)
  | two (i : Nat) (s : Tr) (j : Nat) (t : Tr)
def Tr.len : Tr → Nat
  | .nil => 0
  | .q _ s => s.len + 1
  | .o _ s => s.len + 1
  | .two _ s _ _ => s.len + 1
def Tr.ok (ops : Array Oper) : Tr → Array Bool → Bool
  | .nil, listed => (Region.ready .any ops listed).isEmpty
  | .q i s, listed => (Region.ready .any ops listed).contains i && Region.free .any ops listed i && s.ok ops (listed.setIfInBounds i true)
  | .o i s, listed => decide (Region.ready .any ops listed = [i]) && s.ok ops (listed.setIfInBounds i true)
  | .two i s j t, listed => decide (Region.ready .any ops listed = [i, j]) && decide (s.len = t.len) && s.ok ops (listed.setIfInBounds i true) && t.ok ops (listed.setIfInBounds j true)
def trGood (ops : Array Oper) (t : Tr) : Bool := Region.noSelect ops && decide (t.len = ops.size) && t.ok ops (Array.replicate ops.size false)

def wpTr (P : Program) (ops : Array Oper) (Q : Exit → Act → World → Prop) (S : World → Prop) : Tr → Act → World → Prop
  | .nil, a, w => Q .normal a w
  | .q i s, a, w => ∃ o v, ops[i]? = some o ∧ YieldsIf P ops S o v a ∧ S w ∧ wpTr P ops Q S s (a.put o.dst v) w
  | .o i s, a, w => wpOp P ops Q i (fun a' w' => S w' ∧ wpTr P ops Q S s a' w') a w
  | .two i s j t, a, w => wpOp P ops Q i (fun a' w' => S w' ∧ wpTr P ops Q S s a' w') a w ∧ wpOp P ops Q j (fun a' w' => S w' ∧ wpTr P ops Q S t a' w') a w

theorem wpAnyH_of_tr {P : Program} {ops : Array Oper} {Q : Exit → Act → World → Prop} {S : World → Prop} (hQ : ∀ c a w, ¬ Q (.panic c) a w) (hs : Region.noSelect ops = true) :
    ∀ (t : Tr) (listed : Array Bool) (a : Act) (w : World), t.ok ops listed = true → wpTr P ops Q S t a w → wpAnyH P .any ops Q S t.len listed a w
  | .nil, listed, a, w, h, hw => ⟨by simpa [Tr.ok] using h, hw⟩
  | .q i s, listed, a, w, h, hw => by
    simp only [Tr.ok, Bool.and_eq_true] at h
    obtain ⟨o, v, hi, hy, hS, hk⟩ := hw
    exact wpAnyH_take hi hs h.1.2 h.1.1 (fun c a w hq => absurd hq (hQ c _ w)) hy hS (wpAnyH_of_tr hQ hs s _ _ _ h.2 hk)
  | .o i s, listed, a, w, h, hw => by
    simp only [Tr.ok, Bool.and_eq_true, decide_eq_true_eq] at h
    refine wpAnyH_all h.1 (by simp) fun j hj => ?_
    simp only [List.mem_singleton] at hj
    subst hj
    exact wpOp_mono (fun a' w' hk => ⟨hk.1, wpAnyH_of_tr hQ hs s _ _ _ h.2 hk.2⟩) hw
  | .two i s j t, listed, a, w, h, hw => by
    simp only [Tr.ok, Bool.and_eq_true, decide_eq_true_eq] at h
    refine wpAnyH_all h.1.1.1 (by simp) fun m hm => ?_
    simp only [List.mem_cons, List.not_mem_nil, or_false] at hm
    rcases hm with rfl | rfl
    · exact wpOp_mono (fun a' w' hk => ⟨hk.1, wpAnyH_of_tr hQ hs s _ _ _ h.1.2 hk.2⟩) hw.1
    · exact wpOp_mono (fun a' w' hk => ⟨hk.1, by rw [h.1.1.2]; exact wpAnyH_of_tr hQ hs t _ _ _ h.2 hk.2⟩) hw.2

def WT (P : Program) (N : Nat) (ops : Array Oper) (Q : Exit → Fr → World → Prop) (S : World → Prop) (t : Tr) (l : Fr) (w : World) : Prop :=
  ∀ a, Rep N a l → wpTr P ops (lft N Q) S t a w

section
variable {P : Program} {N : Nat} {Q : Exit → Fr → World → Prop} {S : World → Prop} {l : Fr} {w : World} {ops : Array Oper} {s t : Tr}
theorem WP.forked {id : Nat} {ops : List Oper} (S : World → Prop) (t : Tr) (hg : trGood ops.toArray t = true) (hm : P.follows .mixedOrders = true)
    (h : ∀ w1, Still w w1 → WT P N ops.toArray Q S t l w1) : WP P N (.region id ops.toArray true) Q l w := fun a ha => by
  simp only [trGood, Bool.and_eq_true, decide_eq_true_eq] at hg
  refine wp_region_held (S := S) hm ?_
  have := wpAnyH_of_tr (P := P) (Q := lft N Q) (S := S) (fun c a w h => h) hg.1.1 t _ a _ hg.2 (h w.drew (Still.drew w) a ha)
  rw [hg.1.2] at this
  exact this
theorem WT.nil (h : Q .normal l w) : WT P N ops Q S .nil l w := fun _ ha => ⟨l, ha, h⟩
theorem WT.q {i d : Nat} {o : Oper} {v : Value} (hi : ops[i]? = some o) (hq : QW P N ops S o l d v) (hS : S w) (k : WT P N ops Q S s ((d, v) :: l) w) : WT P N ops Q S (.q i s) l w := fun a ha => by
  refine ⟨o, v, hi, hq.2.2 a ha, hS, ?_⟩
  rw [hq.1]
  exact k _ (ha.put hq.2.1 v)
theorem wpOp_lift {i : Nat} {o : Oper} {K : Act → World → Prop} {K' : Fr → World → Prop} (hi : ops[i]? = some o) (h : OpW P N ops Q o l w K') (hK : ∀ a l w, Rep N a l → K' l w → K a w) {a : Act} (ha : Rep N a l) : wpOp P ops (lft N Q) i K a w := by
  unfold wpOp
  rw [hi]
  exact h a ha _ (fun a' l' w' ha' hk => hK a' l' w' ha' hk)
theorem WT.o {i : Nat} {o : Oper} (hi : ops[i]? = some o) (h : OpW P N ops Q o l w (fun l' w' => S w' ∧ WT P N ops Q S s l' w')) : WT P N ops Q S (.o i s) l w := fun _ ha =>
  wpOp_lift hi h (fun a' _ _ ha' hk => ⟨hk.1, hk.2 a' ha'⟩) ha
theorem WT.two {i j : Nat} {o o' : Oper} (hi : ops[i]? = some o) (hj : ops[j]? = some o') (h : OpW P N ops Q o l w (fun l' w' => S w' ∧ WT P N ops Q S s l' w')) (h' : OpW P N ops Q o' l w (fun l' w' => S w' ∧ WT P N ops Q S t l' w')) :
    WT P N ops Q S (.two i s j t) l w := fun _ ha =>
  ⟨wpOp_lift hi h (fun a' _ _ ha' hk => ⟨hk.1, hk.2 a' ha'⟩) ha, wpOp_lift hj h' (fun a' _ _ ha' hk => ⟨hk.1, hk.2 a' ha'⟩) ha⟩
theorem WT.fld {m m' s' t' f off b d1 d2 : Nat} [FieldTy P s' f off] [CellTy P t'] {x x2 : Operand} {cs : List Value} {tt : TypeId} {v : Value} {ty1 ty2 : TypeId} {pos1 pos2 : String} {af1 af2 : Array Edge} {g1 g2 : Option (Nat × Bool)}
    (hi1 : ops[m]? = some ⟨some d1, .fieldAddr s' x f, ty1, pos1, af1, g1⟩) (hj1 : ops[m']? = some ⟨some d2, .load t' x2, ty2, pos2, af2, g2⟩)
    (hb : ∀ w', S w' → Blk w' b cs tt) (hS : S w) (k : ∀ p, WT P N ops Q S s ((d2, v) :: (d1, p) :: l) w) (hv : cs[off]? = some v := by rfl) (hx : ev l x = some (.pointer (some ⟨b, 0, none⟩)) := by rfl) (h2 : x2 = .tmp d1 := by rfl)
    (hg1 : wantedL ops l g1 = some true := by rfl) (hg2 : ∀ p, wantedL ops ((d1, .pointer (some p)) :: l) g2 = some true := by intro _; rfl) (hd1 : Nat.blt d1 N = true := by rfl) (hd2 : Nat.blt d2 N = true := by rfl) :
    WT P N ops Q S (.q m (.q m' s)) l w := by
  subst h2
  refine WT.q hi1 (q_field hx hg1 hd1) hS ?_
  have ha : (⟨b, 0, none⟩ : Addr).add off = ⟨b, off, none⟩ := by unfold Addr.add; split <;> simp_all
  rw [ha]
  exact WT.q hj1 (q_load (look_cons_self _ _ _) (fun w' hw' => (hb w' hw').cell hv) (hg2 _) hd2) hS (k _)

/-- A middle: what holds behind the first part is enough for the rest. -/
theorem WP.mid {c : Code} {K : Fr → World → Prop} (M : Fr → World → Prop) (hx : WP P N c (thenE M Q) l w) (hk : ∀ l w, M l w → K l w) : WP P N c (thenE K Q) l w := fun a ha =>
  wp_mono (hx a ha) fun e a' w' he => by
    cases e with
    | normal => obtain ⟨l', hr, hm⟩ := he; exact ⟨l', hr, hk _ _ hm⟩
    | ret => exact he
    | exit id => exact he
    | goto n => exact he
    | panic c => exact he
    | outgrown => exact he
end
end Go.Fw
/- Trees of orders with late operations: behind those that wait for all others (directly or through others), S is not asked for. -/
namespace Go.Fw
open Go Go.RowKit
/-- The operation j waits for i, by edges of its own or through others. -/
def waits (ops : Array Oper) : Nat → Nat → Nat → Bool
  | 0, _, _ => false
  | f + 1, i, j => match ops[j]? with
    | none => false
    | some o => o.after.any fun e => Region.binds .any e && (e.on == i || waits ops f i e.on)
/-- What is listed has all that it waits for listed. -/
def Down (ops : Array Oper) (listed : Array Bool) : Prop := ∀ (m : Nat) (o : Oper), ops[m]? = some o → listed.getD m false = true → ∀ e ∈ o.after, Region.binds .any e = true → listed.getD e.on false = true
theorem waits_sound {ops : Array Oper} {listed : Array Bool} (hd : Down ops listed) {i : Nat} : ∀ (f j : Nat) (o : Oper), ops[j]? = some o → (∀ e ∈ o.after, Region.binds .any e = true → listed.getD e.on false = true) → waits ops f i j = true → listed.getD i false = true
  | 0, _, _, _, _, h => by cases h
  | f + 1, j, o, ho, hall, h => by
    unfold waits at h
    rw [ho] at h
    simp only [Array.any_eq_true', Bool.and_eq_true, Bool.or_eq_true, beq_iff_eq] at h
    obtain ⟨e, he, hb, h1 | h1⟩ := h
    · rw [← h1]; exact hall e he hb
    · have hl := hall e he hb
      cases hq : ops[e.on]? with
      | none =>
        cases f with
        | zero => cases h1
        | succ f => unfold waits at h1; rw [hq] at h1; cases h1
      | some o2 => exact waits_sound hd f e.on o2 hq (fun e2 he2 hb2 => hd e.on o2 hq hl e2 he2 hb2) h1
def lateOk (ops : Array Oper) (ks : List Nat) : Bool := ks.all fun k => (List.range ops.size).all fun i => ks.contains i || waits ops 30 i k

def Tr.okL (ops : Array Oper) (ks : List Nat) : Tr → Array Bool → Bool
  | .nil, listed => (Region.ready .any ops listed).isEmpty
  | .q i s, listed => (Region.ready .any ops listed).contains i && Region.free .any ops listed i && !ks.contains i && decide (i < ops.size) && s.okL ops ks (listed.setIfInBounds i true)
  | .o i s, listed => decide (Region.ready .any ops listed = [i]) && s.okL ops ks (listed.setIfInBounds i true)
  | .two i s j t, listed => decide (Region.ready .any ops listed = [i, j]) && decide (s.len = t.len) && s.okL ops ks (listed.setIfInBounds i true) && t.okL ops ks (listed.setIfInBounds j true)
def trGoodL (ops : Array Oper) (ks : List Nat) (t : Tr) : Bool := Region.noSelect ops && decide (t.len = ops.size) && lateOk ops ks && t.okL ops ks (Array.replicate ops.size false)

def wpAnyL (P : Program) (ops : Array Oper) (Q : Exit → Act → World → Prop) (S : World → Prop) (ks : List Nat) : Nat → Array Bool → Act → World → Prop
  | 0, listed, a, w => Region.ready .any ops listed = [] ∧ Q .normal a w
  | fuel + 1, listed, a, w => (Region.ready .any ops listed = [] → Q .normal a w) ∧ ∀ i ∈ Region.ready .any ops listed, wpOp P ops Q i (fun a' w' => (ks.contains i = false → S w') ∧ wpAnyL P ops Q S ks fuel (listed.setIfInBounds i true) a' w') a w
section
variable {P : Program} {ops : Array Oper} {Q : Exit → Act → World → Prop} {S : World → Prop} {ks : List Nat}
theorem wpAny_of_L : ∀ (fuel : Nat) (listed : Array Bool) (a : Act) (w : World), wpAnyL P ops Q S ks fuel listed a w → wpAny P .any ops Q fuel listed a w
  | 0, _, _, _, h => h
  | fuel + 1, _, _, _, h => ⟨h.1, fun i hi => wpOp_mono (fun a' w' h' => wpAny_of_L fuel _ a' w' h'.2) (h.2 i hi)⟩
theorem Down.set {listed : Array Bool} {i : Nat} (h : Down ops listed) (hi : i ∈ Region.ready .any ops listed) : Down ops (listed.setIfInBounds i true) := fun m o ho hl e he hb => by
  obtain ⟨_, oi, hoi, hall⟩ := mem_ready.1 hi
  have keep : listed.getD e.on false = true → (listed.setIfInBounds i true).getD e.on false = true := fun h' => by
    by_cases e2 : i = e.on
    · rw [← e2] at h' ⊢
      have hlt : i < listed.size := by
        rw [Array.getD_eq_getD_getElem?] at h'
        cases hq : listed[i]? with
        | none => rw [hq] at h'; cases h'
        | some b => exact (Array.getElem?_eq_some_iff.1 hq).1
      rw [Array.getD_eq_getD_getElem?, Array.getElem?_setIfInBounds_self_of_lt hlt]
      rfl
    · rw [getD_set_ne false e2]; exact h'
  by_cases e1 : i = m
  · subst e1
    rw [hoi] at ho
    obtain rfl := Option.some.inj ho
    exact keep (hall e he hb)
  · rw [getD_set_ne false e1] at hl
    exact keep (h m o ho hl e he hb)
theorem down_none (n : Nat) : Down ops (Array.replicate n false) := fun m o _ hl => by
  rw [Array.getD_eq_getD_getElem?] at hl
  by_cases h : m < n
  · rw [Array.getElem?_replicate, if_pos h] at hl; cases hl
  · rw [Array.getElem?_replicate, if_neg h] at hl; cases hl
theorem wpAnyL_first {i : Nat} {oi : Oper} {v : Value} (hi : ops[i]? = some oi) (hik : ks.contains i = false) (hk : ∀ k, ks.contains k = true → waits ops 30 i k = true)
    (hsel : ∀ (j : Nat) (o : Oper) cs b, ops[j]? = some o → o.op ≠ .select cs b) (hQ : ∀ c a w, Q (.panic c) (a.put oi.dst v) w → Q (.panic c) a w) :
    ∀ (fuel : Nat) (listed : Array Bool) (a : Act) (w : World), Down ops listed →
      (∀ j oj, ops[j]? = some oj → j ≠ i → listed.getD j true = false → (∀ e ∈ oj.after, Region.binds .any e = true → e.on ≠ i) → oi.apart ops oj = true) →
      i ∈ Region.ready .any ops listed → YieldsIf P ops S oi v a → S w →
      wpAnyL P ops Q S ks fuel (listed.setIfInBounds i true) (a.put oi.dst v) w → wpAnyL P ops Q S ks (fuel + 1) listed a w
  | 0, listed, a, w, _, _, hr, hy, hS, H => by
    refine ⟨fun h => (by rw [h] at hr; cases hr), fun j hj => ?_⟩
    by_cases e : j = i
    · subst e; exact hy.wpOp hi hS ⟨fun _ => hS, H⟩
    · have := ready_mono hj e
      rw [H.1] at this
      cases this
  | fuel + 1, listed, a, w, hd, hf, hr, hy, hS, H => by
    refine ⟨fun h => (by rw [h] at hr; cases hr), fun j hj => ?_⟩
    by_cases e : j = i
    · subst e; exact hy.wpOp hi hS ⟨fun _ => hS, H⟩
    obtain ⟨hju, oj, hoj, hall⟩ := mem_ready.1 hj
    have hno : ∀ e ∈ oj.after, Region.binds .any e = true → e.on ≠ i := fun ed he hb heq => listed_of_ready hr (by have := hall ed he hb; rw [heq] at this; simpa using this)
    have hjk : ks.contains j = false := by
      cases hc : ks.contains j with
      | false => rfl
      | true =>
        exfalso
        have h1 := waits_sound hd 30 j oj hoj hall (hk j hc)
        have h2 := listed_of_ready hr
        rw [Array.getD_eq_getD_getElem?] at h1
        exact h2 h1
    have h2 := wpOp_putIf hoj (hf j oj hoj e hju hno) (fun cs b => hsel i oi cs b hi) (fun cs b => hsel j oj cs b hoj) hQ hy (H.2 j (ready_mono hj e))
    refine wpOp_mono (fun a' w' h3 => ⟨h3.2.1, wpAnyL_first hi hik hk hsel hQ fuel (listed.setIfInBounds j true) a' w' (hd.set hj) (fun m om hm hmi hun hn => hf m om hm hmi ?_ hn) (ready_mono hr (Ne.symm e)) h3.1 (h3.2.1 hjk) ?_⟩) h2
    · by_cases ejm : j = m
      · subst ejm; exact hju
      · rw [getD_set_ne true ejm] at hun; exact hun
    · rw [Array.setIfInBounds_comm _ _ e]
      exact h3.2.2
end
def wpTrL (P : Program) (ops : Array Oper) (Q : Exit → Act → World → Prop) (S : World → Prop) (ks : List Nat) : Tr → Act → World → Prop
  | .nil, a, w => Q .normal a w
  | .q i s, a, w => ∃ o v, ops[i]? = some o ∧ YieldsIf P ops S o v a ∧ S w ∧ wpTrL P ops Q S ks s (a.put o.dst v) w
  | .o i s, a, w => wpOp P ops Q i (fun a' w' => (ks.contains i = false → S w') ∧ wpTrL P ops Q S ks s a' w') a w
  | .two i s j t, a, w => wpOp P ops Q i (fun a' w' => (ks.contains i = false → S w') ∧ wpTrL P ops Q S ks s a' w') a w ∧ wpOp P ops Q j (fun a' w' => (ks.contains j = false → S w') ∧ wpTrL P ops Q S ks t a' w') a w
theorem wpAnyL_of_tr {P : Program} {ops : Array Oper} {Q : Exit → Act → World → Prop} {S : World → Prop} {ks : List Nat} (hQ : ∀ c a w, ¬ Q (.panic c) a w) (hs : Region.noSelect ops = true) (hlate : lateOk ops ks = true) :
    ∀ (t : Tr) (listed : Array Bool) (a : Act) (w : World), Down ops listed → t.okL ops ks listed = true → wpTrL P ops Q S ks t a w → wpAnyL P ops Q S ks t.len listed a w
  | .nil, listed, a, w, _, h, hw => ⟨by simpa [Tr.okL] using h, hw⟩
  | .q i s, listed, a, w, hd, h, hw => by
    simp only [Tr.okL, Bool.and_eq_true, decide_eq_true_eq, Bool.not_eq_true'] at h
    obtain ⟨o, v, hi, hy, hS, hk⟩ := hw
    have hr : i ∈ Region.ready .any ops listed := by simpa using h.1.1.1.1
    refine wpAnyL_first hi h.1.1.2 (fun k hc => ?_) (Region.noSelect_spec hs) (fun c a w hq => absurd hq (hQ c _ w)) s.len listed a w hd (Region.free_spec hi h.1.1.1.2) hr hy hS (wpAnyL_of_tr hQ hs hlate s _ _ _ (hd.set hr) h.2 hk)
    unfold lateOk at hlate
    have h1 := List.all_eq_true.1 hlate k (by simpa using hc)
    have h2 := List.all_eq_true.1 h1 i (List.mem_range.2 h.1.2)
    rw [h.1.1.2, Bool.false_or] at h2
    exact h2
  | .o i s, listed, a, w, hd, h, hw => by
    simp only [Tr.okL, Bool.and_eq_true, decide_eq_true_eq] at h
    refine ⟨fun h0 => (by rw [h.1] at h0; cases h0), fun j hj => ?_⟩
    have hd2 := hd.set hj
    rw [h.1] at hj
    simp only [List.mem_singleton] at hj
    subst hj
    exact wpOp_mono (fun a' w' hk => ⟨hk.1, wpAnyL_of_tr hQ hs hlate s _ _ _ hd2 h.2 hk.2⟩) hw
  | .two i s j t, listed, a, w, hd, h, hw => by
    simp only [Tr.okL, Bool.and_eq_true, decide_eq_true_eq] at h
    refine ⟨fun h0 => (by rw [h.1.1.1] at h0; cases h0), fun m hm => ?_⟩
    have hd2 := hd.set hm
    rw [h.1.1.1] at hm
    simp only [List.mem_cons, List.not_mem_nil, or_false] at hm
    rcases hm with rfl | rfl
    · exact wpOp_mono (fun a' w' hk => ⟨hk.1, wpAnyL_of_tr hQ hs hlate s _ _ _ hd2 h.1.2 hk.2⟩) hw.1
    · exact wpOp_mono (fun a' w' hk => ⟨hk.1, by have := wpAnyL_of_tr hQ hs hlate t _ _ _ hd2 h.2 hk.2; rw [← h.1.1.2] at this; exact this⟩) hw.2
def WV (P : Program) (N : Nat) (ops : Array Oper) (Q : Exit → Fr → World → Prop) (S : World → Prop) (ks : List Nat) (t : Tr) (l : Fr) (w : World) : Prop :=
  ∀ a, Rep N a l → wpTrL P ops (lft N Q) S ks t a w
section
variable {P : Program} {N : Nat} {Q : Exit → Fr → World → Prop} {S : World → Prop} {l : Fr} {w : World} {ops : Array Oper} {s t : Tr} {ks : List Nat}
theorem WP.forkedL {id : Nat} {ops : List Oper} (S : World → Prop) (ks : List Nat) (t : Tr) (hg : trGoodL ops.toArray ks t = true) (hm : P.follows .mixedOrders = true)
    (h : ∀ w1, Still w w1 → WV P N ops.toArray Q S ks t l w1) : WP P N (.region id ops.toArray true) Q l w := fun a ha => by
  simp only [trGoodL, Bool.and_eq_true, decide_eq_true_eq] at hg
  refine wp_region_any hm (wpAny_of_L (S := S) (ks := ks) _ _ _ _ ?_)
  have := wpAnyL_of_tr (P := P) (Q := lft N Q) (S := S) (ks := ks) (fun c a w h => h) hg.1.1.1 hg.1.2 t _ a _ (down_none _) hg.2 (h w.drew (Still.drew w) a ha)
  rw [hg.1.1.2] at this
  exact this
theorem WV.frame (r : Fr) (hr : Agree l r) (h : WV P N ops Q S ks t r w) : WV P N ops Q S ks t l w := fun a ha => h a (ha.weaken hr)
/-- A middle that several orders come to. -/
theorem WV.via (M : Fr → World → Prop) (T : Tr) (k : ∀ l w, M l w → WV P N ops Q S ks T l w) (h : (∀ l w, M l w → WV P N ops Q S ks T l w) → WV P N ops Q S ks t l w) : WV P N ops Q S ks t l w := h k
theorem WV.nil (h : Q .normal l w) : WV P N ops Q S ks .nil l w := fun _ ha => ⟨l, ha, h⟩
theorem WV.q {i d : Nat} {o : Oper} {v : Value} (hi : ops[i]? = some o) (hq : QW P N ops S o l d v) (hS : S w) (k : WV P N ops Q S ks s ((d, v) :: l) w) : WV P N ops Q S ks (.q i s) l w := fun a ha => by
  refine ⟨o, v, hi, hq.2.2 a ha, hS, ?_⟩
  rw [hq.1]
  exact k _ (ha.put hq.2.1 v)
theorem WV.o {i : Nat} {o : Oper} (hi : ops[i]? = some o) (h : OpW P N ops Q o l w (fun l' w' => S w' ∧ WV P N ops Q S ks s l' w')) : WV P N ops Q S ks (.o i s) l w := fun _ ha =>
  wpOp_lift hi h (fun a' _ _ ha' hk => ⟨fun _ => hk.1, hk.2 a' ha'⟩) ha
/-- A late operation. -/
theorem WV.late {i : Nat} {o : Oper} (hi : ops[i]? = some o) (h : OpW P N ops Q o l w (fun l' w' => WV P N ops Q S ks s l' w')) (hk : ks.contains i = true := by rfl) : WV P N ops Q S ks (.o i s) l w := fun _ ha =>
  wpOp_lift hi h (fun a' _ _ ha' hk2 => ⟨fun hf => (by rw [hk] at hf; cases hf), hk2 a' ha'⟩) ha
theorem WV.two {i j : Nat} {o o' : Oper} (hi : ops[i]? = some o) (hj : ops[j]? = some o') (h : OpW P N ops Q o l w (fun l' w' => S w' ∧ WV P N ops Q S ks s l' w')) (h' : OpW P N ops Q o' l w (fun l' w' => S w' ∧ WV P N ops Q S ks t l' w')) :
    WV P N ops Q S ks (.two i s j t) l w := fun _ ha =>
  ⟨wpOp_lift hi h (fun a' _ _ ha' hk => ⟨fun _ => hk.1, hk.2 a' ha'⟩) ha, wpOp_lift hj h' (fun a' _ _ ha' hk => ⟨fun _ => hk.1, hk.2 a' ha'⟩) ha⟩
theorem WV.fld {m m' s' t' f off b d1 d2 : Nat} [FieldTy P s' f off] [CellTy P t'] {x x2 : Operand} {cs : List Value} {tt : TypeId} {v : Value} {ty1 ty2 : TypeId} {pos1 pos2 : String} {af1 af2 : Array Edge} {g1 g2 : Option (Nat × Bool)}
    (hi1 : ops[m]? = some ⟨some d1, .fieldAddr s' x f, ty1, pos1, af1, g1⟩) (hj1 : ops[m']? = some ⟨some d2, .load t' x2, ty2, pos2, af2, g2⟩)
    (hb : ∀ w', S w' → Blk w' b cs tt) (hS : S w) (k : ∀ p, WV P N ops Q S ks s ((d2, v) :: (d1, p) :: l) w) (hv : cs[off]? = some v := by rfl) (hx : ev l x = some (.pointer (some ⟨b, 0, none⟩)) := by rfl) (h2 : x2 = .tmp d1 := by rfl)
    (hg1 : wantedL ops l g1 = some true := by rfl) (hg2 : ∀ p, wantedL ops ((d1, .pointer (some p)) :: l) g2 = some true := by intro _; rfl) (hd1 : Nat.blt d1 N = true := by rfl) (hd2 : Nat.blt d2 N = true := by rfl) :
    WV P N ops Q S ks (.q m (.q m' s)) l w := by
  subst h2
  refine WV.q hi1 (q_field hx hg1 hd1) hS ?_
  have ha : (⟨b, 0, none⟩ : Addr).add off = ⟨b, off, none⟩ := by unfold Addr.add; split <;> simp_all
  rw [ha]
  exact WV.q hj1 (q_load (look_cons_self _ _ _) (fun w' hw' => (hb w' hw').cell hv) (hg2 _) hd2) hS (k _)
theorem WV.ixload {α : Type} {R : Nat → Nat → World → Value → α → Prop} {lo hi : Nat} {v : Value} {xs : List α} {m m' : Nat} {t1 t2 e : TypeId} {z : Value} {bytes : Nat} [SliceTy P t1 e z bytes] [CellTy P t2] {x y : Operand} {kk : IntKind} {i : Int} {j : Nat} {d1 d2 : Nat} {ty1 ty2 : TypeId} {pos1 pos2 : String} {af1 af2 : Array Edge} {g1 g2 : Option (Nat × Bool)} {x2 : Operand} {a : α}
    (hi1 : ops[m]? = some ⟨some d1, .indexAddr t1 x y, ty1, pos1, af1, g1⟩) (hj1 : ops[m']? = some ⟨some d2, .load t2 x2, ty2, pos2, af2, g2⟩)
    (hs : SL R lo hi w v xs) (ha : xs[j]? = some a) (hS : ∀ w', S w' → Same lo hi w w') (hSw : S w)
    (k : ∀ p u, R lo hi w u a → WV P N ops Q S ks s ((d2, u) :: (d1, p) :: l) w) (hx : ev l x = some v := by rfl) (hy : ev l y = some (.int kk i) := by rfl) (hij : i = (j : Int) := by first | rfl | omega) (h2 : x2 = .tmp d1 := by rfl)
    (hg1 : wantedL ops l g1 = some true := by rfl) (hg2 : ∀ p, wantedL ops ((d1, .pointer (some p)) :: l) g2 = some true := by intro _; rfl) (hd1 : Nat.blt d1 N = true := by rfl) (hd2 : Nat.blt d2 N = true := by rfl) :
    WV P N ops Q S ks (.q m (.q m' s)) l w := by
  subst h2
  obtain ⟨_, ad, c, rfl, hl, hn, h⟩ := hs
  obtain ⟨b, o, u, rfl, hb1, hb2, hc, hr⟩ := h _ a ha
  have hlt := (List.getElem?_eq_some_iff.1 ha).1
  subst hij
  refine WV.q hi1 (q_ix hx hy (by omega) (by omega) hg1 hd1) hSw ?_
  refine WV.q hj1 (q_load (look_cons_self _ _ _) (fun w' hw' => by rw [World.cell?_of_block (hS w' hw' b hb1 hb2)]; simpa using hc) (hg2 _) hd2) hSw ?_
  exact k _ u hr
/-- x.f = u, both late. -/
theorem WV.fldst {m m' s' t' f off b d1 : Nat} [FieldTy P s' f off] [CellTy P t'] {x x2 y : Operand} {cs : List Value} {tt : TypeId} {u old : Value} {ty1 ty2 : TypeId} {pos1 pos2 : String} {af1 af2 : Array Edge}
    (hi1 : ops[m]? = some ⟨some d1, .fieldAddr s' x f, ty1, pos1, af1, none⟩) (hj1 : ops[m']? = some ⟨none, .store t' x2 y, ty2, pos2, af2, none⟩)
    (hb : Blk w b cs tt) (k : ∀ p w1, Blk w1 b (cs.set off u) tt → But b w w1 → WV P N ops Q S ks s ((d1, p) :: l) w1) (hv : cs[off]? = some old := by rfl) (hx : ev l x = some (.pointer (some ⟨b, 0, none⟩)) := by rfl) (hy : ∀ p, ev ((d1, p) :: l) y = some u := by intro _; rfl) (hu : u.oneCell' = true := by rfl) (h2 : x2 = .tmp d1 := by rfl)
    (hd1 : Nat.blt d1 N = true := by rfl) (hk1 : ks.contains m = true := by rfl) (hk2 : ks.contains m' = true := by rfl) : WV P N ops Q S ks (.o m (.o m' s)) l w := by
  subst h2
  refine WV.late hi1 (o_field hx ?_ rfl hd1) hk1
  have ha : (⟨b, 0, none⟩ : Addr).add off = ⟨b, off, none⟩ := by unfold Addr.add; split <;> simp_all
  rw [ha]
  exact WV.late hj1 (o_store (look_cons_self _ _ _) (hy _) (hb.cell hv) (hb.free off) (k _ _ (hb.set off u) (But.setCell w b off u)) hu rfl) hk2
end
end Go.Fw
