/- Slices of slices of integers, and tableaus: made, compared, marked and looked at again by the laws. -/
import Derived.Test.YtgjpdjblchgfdaaH2
namespace Go.Fw
open Go Go.RowKit

theorem Blk.chg {w w' : World} {b a c : Nat} {cs : List Value} {t : TypeId} (h : Blk w b cs t) (hc : Chg a c w w') (hd : b < a ∨ c ≤ b) : Blk w' b cs t := h.keep (hc.block b h.lt hd)
theorem But.chg {b : Nat} {w w' : World} (h : But b w w') : Chg b (b + 1) w w' := ⟨h.os, h.tape, h.output, by rw [h.size]; exact Nat.le_refl _, fun k _ hk => h.block k (by omega)⟩

section
variable {P : Program} {N : Nat} {Q : Exit → Fr → World → Prop} {l : Fr} {w : World} {ops : Array Oper} {rest : List Oper}
/-- x.f of a variable that is a block: the place and the load. -/
theorem WL.fld {s t f off b d1 d2 : Nat} [FieldTy P s f off] [CellTy P t] {x x2 : Operand} {cs : List Value} {tt : TypeId} {v : Value} {ty1 ty2 : TypeId} {pos1 pos2 : String} {af1 af2 : Array Edge} {g1 g2 : Option (Nat × Bool)}
    (hb : Blk w b cs tt) (k : ∀ p, WL P N ops Q rest ((d2, v) :: (d1, p) :: l) w) (hv : cs[off]? = some v := by rfl) (hx : ev l x = some (.pointer (some ⟨b, 0, none⟩)) := by rfl) (h2 : x2 = .tmp d1 := by rfl)
    (hg1 : wantedL ops l g1 = some true := by rfl) (hg2 : ∀ p, wantedL ops ((d1, .pointer (some p)) :: l) g2 = some true := by intro _; rfl) (hd1 : Nat.blt d1 N = true := by rfl) (hd2 : Nat.blt d2 N = true := by rfl) :
    WL P N ops Q (⟨some d1, .fieldAddr s x f, ty1, pos1, af1, g1⟩ :: ⟨some d2, .load t x2, ty2, pos2, af2, g2⟩ :: rest) l w := by
  subst h2
  refine WL.step (o_field hx ?_ hg1 hd1)
  have ha : (⟨b, 0, none⟩ : Addr).add off = ⟨b, off, none⟩ := by unfold Addr.add; split <;> simp_all
  rw [ha]
  exact WL.step (o_load (look_cons_self _ _ _) (hb.cell hv) (k _) (hg2 _) hd2)

/-- var x = u, of a struct. -/
theorem WL.var {t n d1 : Nat} {z : Array Value} {zz : Value} [StructTy P t n z] [ZeroTy P t zz] {x y : Operand} {vs : List Value} {ty1 ty2 : TypeId} {pos1 pos2 : String} {af1 af2 : Array Edge}
    (hy : ∀ p, ev ((d1, p) :: l) y = some (.agg vs.toArray)) (hm : vs.length = n) (h1 : ∀ u ∈ vs, u.oneCell' = true)
    (k : ∀ w1, Blk w1 w.heap.size vs t → Below w.heap.size w w1 → w1.heap.size = w.heap.size + 1 → WL P N ops Q rest ((d1, .pointer (some ⟨w.heap.size, 0, none⟩)) :: l) w1)
    (hz : zz.cells.toList.length = n := by rfl) (h2 : x = .tmp d1 := by rfl) (hd1 : Nat.blt d1 N = true := by rfl) :
    WL P N ops Q (⟨some d1, .alloc t, ty1, pos1, af1, none⟩ :: ⟨none, .store t x y, ty2, pos2, af2, none⟩ :: rest) l w := by
  subst h2
  refine WL.step (o_alloc (z := zz) ?_ rfl hd1)
  intro w1 hb hbl hz1
  refine WL.step (o_storeS (vs := vs) (look_cons_self _ _ _) (hy _) hb hz hm h1 ?_)
  intro w2 hb2 hbut
  exact k w2 hb2 (hbl.trans (hbut.below (Nat.le_refl _))) (by rw [hbut.size, hz1])

/-- x.f = u. -/
theorem WL.fldst {s t f off b d1 : Nat} [FieldTy P s f off] [CellTy P t] {x x2 y : Operand} {cs : List Value} {tt : TypeId} {u old : Value} {ty1 ty2 : TypeId} {pos1 pos2 : String} {af1 af2 : Array Edge}
    (hb : Blk w b cs tt) (k : ∀ p w1, Blk w1 b (cs.set off u) tt → But b w w1 → WL P N ops Q rest ((d1, p) :: l) w1) (hv : cs[off]? = some old := by rfl) (hx : ev l x = some (.pointer (some ⟨b, 0, none⟩)) := by rfl) (hy : ∀ p, ev ((d1, p) :: l) y = some u := by intro _; rfl) (hu : u.oneCell' = true := by rfl) (h2 : x2 = .tmp d1 := by rfl)
    (hd1 : Nat.blt d1 N = true := by rfl) :
    WL P N ops Q (⟨some d1, .fieldAddr s x f, ty1, pos1, af1, none⟩ :: ⟨none, .store t x2 y, ty2, pos2, af2, none⟩ :: rest) l w := by
  subst h2
  refine WL.step (o_field hx ?_ rfl hd1)
  have ha : (⟨b, 0, none⟩ : Addr).add off = ⟨b, off, none⟩ := by unfold Addr.add; split <;> simp_all
  rw [ha]
  exact WL.step (o_store (look_cons_self _ _ _) (hy _) (hb.cell hv) (hb.free off) (k _ _ (hb.set off u) (But.setCell w b off u)) hu rfl)
end

/-- A slice of slices that the call owns: its own row and each row in it, all apart. -/
structure OwSSv (e e2 : TypeId) (lo hi : Nat) (w : World) (v : Value) (vs : List Value) (xss : List (List Int)) : Prop where
  own : Own lo e w v vs
  lt : ∀ k, v.ownBlock = some k → k < hi
  hi_le : hi ≤ w.heap.size
  len : vs.length = xss.length
  rows : ∀ (i : Nat) u xs, vs[i]? = some u → xss[i]? = some xs → OwI e2 lo hi w u xs
  apart : ∀ (i j : Nat) u u', i ≠ j → vs[i]? = some u → vs[j]? = some u' → ∀ k, u.ownBlock = some k → u'.ownBlock ≠ some k
  ne : e ≠ e2

theorem Own.elem {lo : Nat} {e : TypeId} {w : World} {v : Value} {us : List Value} (h : Own lo e w v us) {k : Nat} (hk : v.ownBlock = some k) : ∃ cur, w.heap[k]? = some (.cells cur e (0, 0)) := by
  obtain ⟨_, ⟨rfl, h0⟩ | ⟨g, cap, cur, rfl, hb, hg, _⟩⟩ := h
  · simp [Value.ownBlock] at hk
  · simp [Value.ownBlock] at hk
    subst hk
    exact ⟨cur, hg⟩

theorem Own.ne_block {lo lo' : Nat} {e e' : TypeId} {w : World} {v v' : Value} {us us' : List Value} (h : Own lo e w v us) (h' : Own lo' e' w v' us') (hne : e ≠ e') {k : Nat} (hk : v.ownBlock = some k) : v'.ownBlock ≠ some k := fun hk' => by
  obtain ⟨c1, h1⟩ := h.elem hk
  obtain ⟨c2, h2⟩ := h'.elem hk'
  rw [h1] at h2
  simp only [Option.some.injEq, Obj.cells.injEq] at h2
  exact hne h2.2.1

section
variable {e e2 : TypeId} {lo hi : Nat} {w w' : World} {v : Value} {vs : List Value} {xss : List (List Int)}

theorem OwSSv.chg {a b : Nat} (h : OwSSv e e2 lo hi w v vs xss) (hc : Chg a b w w') (hd : hi ≤ a ∨ b ≤ lo) : OwSSv e e2 lo hi w' v vs xss :=
  ⟨h.own.keep fun k hk => hc.same h.hi_le hd k (h.own.block k hk).1 (h.lt k hk), h.lt, Nat.le_trans h.hi_le hc.size, h.len, fun i u xs hu hx => (h.rows i u xs hu hx).chg hc hd, h.apart, h.ne⟩

theorem OwI.wide {lo' hi' : Nat} {xs : List Int} (h : OwI e lo hi w v xs) (h1 : lo' ≤ lo) (h2 : hi ≤ hi') (hz : hi' ≤ w.heap.size) : OwI e lo' hi' w v xs :=
  ⟨h.own.lower h1, fun k hk => Nat.lt_of_lt_of_le (h.lt k hk) h2, hz⟩

theorem OwSSv.wide {lo' hi' : Nat} (h : OwSSv e e2 lo hi w v vs xss) (h1 : lo' ≤ lo) (h2 : hi ≤ hi') (hz : hi' ≤ w.heap.size) : OwSSv e e2 lo' hi' w v vs xss :=
  ⟨h.own.lower h1, fun k hk => Nat.lt_of_lt_of_le (h.lt k hk) h2, hz, h.len, fun i u xs hu hx => (h.rows i u xs hu hx).wide h1 h2 hz, h.apart, h.ne⟩

theorem OwSSv.rd (h : OwSSv e e2 lo hi w v vs xss) : ISS lo hi w v xss :=
  h.own.toSL h.len (Nat.le_refl _) h.lt h.hi_le fun i u xs hu hx => (h.rows i u xs hu hx).rd

/-- One row's numbers are written. -/
theorem OwSSv.setRow {i : Nat} {u : Value} {ys : List Int} (h : OwSSv e e2 lo hi w v vs xss) (hu : vs[i]? = some u) (ho : Own lo e2 w' u (Ints ys)) (hz : w'.heap.size = w.heap.size) (hs : ∀ j, u.ownBlock ≠ some j → w'.heap[j]? = w.heap[j]?) :
    OwSSv e e2 lo hi w' v vs (xss.set i ys) := by
  have hi' : i < vs.length := (List.getElem?_eq_some_iff.1 hu).1
  obtain ⟨xs, hx⟩ : ∃ xs, xss[i]? = some xs := ⟨_, List.getElem?_eq_getElem (by rw [← h.len]; exact hi')⟩
  have hr := h.rows i u xs hu hx
  refine ⟨h.own.keep fun k hk => hs k fun e' => h.own.ne_block hr.own h.ne hk e', h.lt, by rw [hz]; exact h.hi_le, by simpa using h.len, fun j u' xs' hu' hx' => ?_, h.apart, h.ne⟩
  by_cases hij : i = j
  · subst hij
    rw [hu] at hu'
    simp only [Option.some.injEq] at hu'
    subst hu'
    rw [List.getElem?_set_self (by rw [← h.len]; exact hi')] at hx'
    simp only [Option.some.injEq] at hx'
    subst hx'
    exact ⟨ho, hr.lt, by rw [hz]; exact h.hi_le⟩
  · rw [List.getElem?_set_ne hij] at hx'
    have hr' := h.rows j u' xs' hu' hx'
    exact ⟨hr'.own.keep fun k hk => hs k (h.apart j i u' u (fun e => hij e.symm) hu' hu k hk), hr'.lt, by rw [hz]; exact h.hi_le⟩

/-- A new row is put into a place. -/
theorem OwSSv.putRow {i s hi' : Nat} {u : Value} {ys : List Int} (h : OwSSv e e2 lo hi w v vs xss) (hi1 : i < vs.length) (hu : OwI e2 s hi' w u ys) (hs : hi ≤ s) (hlo : lo ≤ s) (ho : Own lo e w' v (vs.set i u)) (hz : w'.heap.size = w.heap.size) (hb : ∀ k, v.ownBlock ≠ some k → w'.heap[k]? = w.heap[k]?) (hh : hi ≤ hi') :
    OwSSv e e2 lo hi' w' v (vs.set i u) (xss.set i ys) := by
  have keep : ∀ (u' : Value) (xs' : List Int) (lo' hi'' : Nat), OwI e2 lo' hi'' w u' xs' → OwI e2 lo' hi'' w' u' xs' := fun u' xs' lo' hi'' hr =>
    ⟨hr.own.keep fun k hk => hb k fun e' => h.own.ne_block hr.own h.ne e' hk, hr.lt, by rw [hz]; exact hr.hi_le⟩
  refine ⟨ho, fun k hk => Nat.lt_of_lt_of_le (h.lt k hk) hh, by rw [hz]; exact hu.hi_le, by simpa using h.len, fun j u' xs' hu' hx' => ?_, fun j j' u1 u2 hne h1 h2 k hk => ?_, h.ne⟩
  · by_cases hij : i = j
    · subst hij
      rw [List.getElem?_set_self hi1] at hu'
      rw [List.getElem?_set_self (by rw [← h.len]; exact hi1)] at hx'
      simp only [Option.some.injEq] at hu' hx'
      subst hu' hx'
      exact keep _ _ _ _ (hu.wide hlo (Nat.le_refl _) hu.hi_le)
    · rw [List.getElem?_set_ne hij] at hx' hu'
      exact keep _ _ _ _ ((h.rows j u' xs' hu' hx').wide (Nat.le_refl _) hh hu.hi_le)
  · have oldlt : ∀ (m : Nat) (u' : Value), vs[m]? = some u' → ∀ k, u'.ownBlock = some k → k < hi := fun m u' hm k hk => by
      obtain ⟨xs, hx⟩ : ∃ xs, xss[m]? = some xs := ⟨_, List.getElem?_eq_getElem (by rw [← h.len]; exact (List.getElem?_eq_some_iff.1 hm).1)⟩
      exact (h.rows m u' xs hm hx).lt k hk
    by_cases hij : i = j
    · subst hij
      rw [List.getElem?_set_self hi1] at h1
      rw [List.getElem?_set_ne hne] at h2
      simp only [Option.some.injEq] at h1
      subst h1
      intro hk2
      have a1 := (hu.own.block k hk).1
      have a2 := oldlt j' u2 h2 k hk2
      omega
    · rw [List.getElem?_set_ne hij] at h1
      by_cases hij' : i = j'
      · subst hij'
        rw [List.getElem?_set_self hi1] at h2
        simp only [Option.some.injEq] at h2
        subst h2
        intro hk2
        have a1 := (hu.own.block k hk2).1
        have a2 := oldlt j u1 h1 k hk
        omega
      · rw [List.getElem?_set_ne hij'] at h2
        exact h.apart j j' u1 u2 hne h1 h2 k hk

/-- A new row is appended. -/
theorem OwSSv.snoc {s : Nat} {u v' : Value} {ys : List Int} (h : OwSSv e e2 lo hi w v vs xss) (hu : OwI e2 s w.heap.size w u ys) (hs : hi ≤ s) (hlo : lo ≤ s) (ho : Own lo e w' v' (vs ++ [u])) (hz : w.heap.size ≤ w'.heap.size) (hb : ∀ k, k < w.heap.size → v.ownBlock ≠ some k → w'.heap[k]? = w.heap[k]?) :
    OwSSv e e2 lo w'.heap.size w' v' (vs ++ [u]) (xss ++ [ys]) := by
  have keep : ∀ (u' : Value) (xs' : List Int) (lo' hi'' : Nat), OwI e2 lo' hi'' w u' xs' → OwI e2 lo' hi'' w' u' xs' := fun u' xs' lo' hi'' hr =>
    ⟨hr.own.keep fun k hk => hb k (hr.own.block k hk).2 fun e' => h.own.ne_block hr.own h.ne e' hk, hr.lt, Nat.le_trans hr.hi_le hz⟩
  have hlen := h.len
  refine ⟨ho, fun k hk => (ho.block k hk).2, Nat.le_refl _, by simp [hlen], fun j u' xs' hu' hx' => ?_, fun j j' u1 u2 hne h1 h2 k hk => ?_, h.ne⟩
  · rw [List.getElem?_append] at hu' hx'
    rw [← hlen] at hx'
    split at hu'
    · rename_i hj
      rw [if_pos hj] at hx'
      exact (keep _ _ _ _ (h.rows j u' xs' hu' hx')).wide (Nat.le_refl _) (Nat.le_trans h.hi_le hz) (Nat.le_refl _)
    · rename_i hj
      rw [if_neg hj] at hx'
      have : j - vs.length = 0 := by have := (List.getElem?_eq_some_iff.1 hu').1; simp at this; omega
      rw [this] at hu' hx'
      simp at hu' hx'
      subst hu' hx'
      exact (keep _ _ _ _ hu).wide hlo hz (Nat.le_refl _)
  · have oldlt : ∀ (m : Nat) (u' : Value), vs[m]? = some u' → ∀ k, u'.ownBlock = some k → k < hi := fun m u' hm k hk => by
      obtain ⟨xs, hx⟩ : ∃ xs, xss[m]? = some xs := ⟨_, List.getElem?_eq_getElem (by rw [← h.len]; exact (List.getElem?_eq_some_iff.1 hm).1)⟩
      exact (h.rows m u' xs hm hx).lt k hk
    rw [List.getElem?_append] at h1 h2
    split at h1 <;> split at h2
    · exact h.apart j j' u1 u2 hne h1 h2 k hk
    · have : u2 = u := by have := List.mem_of_getElem? h2; simpa using this
      subst this
      intro hk2
      have a1 := (hu.own.block k hk2).1
      have a2 := oldlt j u1 h1 k hk
      omega
    · have : u1 = u := by have := List.mem_of_getElem? h1; simpa using this
      subst this
      intro hk2
      have a1 := (hu.own.block k hk).1
      have a2 := oldlt j' u2 h2 k hk2
      omega
    · exfalso
      have q1 := (List.getElem?_eq_some_iff.1 h1).1
      have q2 := (List.getElem?_eq_some_iff.1 h2).1
      simp at q1 q2
      omega
end

def OwSS (e e2 : TypeId) (lo hi : Nat) (w : World) (v : Value) (xss : List (List Int)) : Prop := ∃ vs, OwSSv e e2 lo hi w v vs xss

section
variable {e e2 : TypeId} {lo hi : Nat} {w w' : World} {v : Value} {xss : List (List Int)}
theorem OwSS.chg {a b : Nat} (h : OwSS e e2 lo hi w v xss) (hc : Chg a b w w') (hd : hi ≤ a ∨ b ≤ lo) : OwSS e e2 lo hi w' v xss := h.imp fun _ h => h.chg hc hd
theorem OwSS.rd (h : OwSS e e2 lo hi w v xss) : ISS lo hi w v xss := by obtain ⟨vs, h⟩ := h; exact h.rd
theorem OwSS.wide {lo' hi' : Nat} (h : OwSS e e2 lo hi w v xss) (h1 : lo' ≤ lo) (h2 : hi ≤ hi') (hz : hi' ≤ w.heap.size) : OwSS e e2 lo' hi' w v xss := h.imp fun _ h => h.wide h1 h2 hz
theorem OwSS.hi_le (h : OwSS e e2 lo hi w v xss) : hi ≤ w.heap.size := by obtain ⟨_, h⟩ := h; exact h.hi_le
theorem ISS.chg {a b : Nat} (h : ISS lo hi w v xss) (hc : Chg a b w w') (hd : hi ≤ a ∨ b ≤ lo) : ISS lo hi w' v xss := SL.chg IS.stable h hc hd
end

/-- A tableau as data. -/
abbrev TabD := List (List Int) × List Int
def IT (lo hi : Nat) (w : World) (v : Value) (x : TabD) : Prop := ∃ va vb, v = .agg #[va, vb] ∧ ISS lo hi w va x.1 ∧ IS lo hi w vb x.2
/-- A tableau that the call owns: its rows, its last list, all apart. -/
structure OwTv (e e2 : TypeId) (lo hi : Nat) (w : World) (va vb : Value) (vs : List Value) (x : TabD) : Prop where
  rows : OwSSv e e2 lo hi w va vs x.1
  last : OwI e2 lo hi w vb x.2
  apart : ∀ (i : Nat) u, vs[i]? = some u → ∀ k, u.ownBlock = some k → vb.ownBlock ≠ some k
def OwT (e e2 : TypeId) (lo hi : Nat) (w : World) (v : Value) (x : TabD) : Prop := ∃ va vb vs, v = .agg #[va, vb] ∧ OwTv e e2 lo hi w va vb vs x

section
variable {e e2 : TypeId} {lo hi a b : Nat} {w w' : World} {v : Value} {x : TabD}
theorem IT.chg (h : IT lo hi w v x) (hc : Chg a b w w') (hd : hi ≤ a ∨ b ≤ lo) : IT lo hi w' v x := by
  obtain ⟨va, vb, rfl, h1, h2⟩ := h
  exact ⟨va, vb, rfl, ISS.chg h1 hc hd, RI.chg h2 hc hd⟩
theorem IT.hi_le (h : IT lo hi w v x) : hi ≤ w.heap.size := by obtain ⟨_, _, _, _, h⟩ := h; exact h.hi_le
theorem OwT.hi_le (h : OwT e e2 lo hi w v x) : hi ≤ w.heap.size := by obtain ⟨_, _, _, _, h⟩ := h; exact h.last.hi_le
theorem OwT.chg (h : OwT e e2 lo hi w v x) (hc : Chg a b w w') (hd : hi ≤ a ∨ b ≤ lo) : OwT e e2 lo hi w' v x := by
  obtain ⟨va, vb, vs, rfl, h⟩ := h
  exact ⟨va, vb, vs, rfl, h.rows.chg hc hd, h.last.chg hc hd, h.apart⟩
theorem OwT.rd (h : OwT e e2 lo hi w v x) : IT lo hi w v x := by
  obtain ⟨va, vb, vs, rfl, h⟩ := h
  exact ⟨va, vb, rfl, h.rows.rd, h.last.rd⟩
/-- Rows first, the last list behind them (or the other way round). -/
theorem OwT.mk {m : Nat} {va vb : Value} (h1 : OwSS e e2 lo m w va x.1) (h2 : OwI e2 m hi w vb x.2) (hm : lo ≤ m) (hm2 : m ≤ hi) : OwT e e2 lo hi w (.agg #[va, vb]) x := by
  obtain ⟨vs, h1⟩ := h1
  refine ⟨va, vb, vs, rfl, h1.wide (Nat.le_refl _) hm2 h2.hi_le, h2.wide hm (Nat.le_refl _) h2.hi_le, fun i u hu k hk hk2 => ?_⟩
  obtain ⟨xs, hx⟩ : ∃ xs, x.1[i]? = some xs := ⟨_, List.getElem?_eq_getElem (by rw [← h1.len]; exact (List.getElem?_eq_some_iff.1 hu).1)⟩
  have a1 := (h1.rows i u xs hu hx).lt k hk
  have a2 := (h2.own.block k hk2).1
  omega
theorem OwT.mk' {m : Nat} {va vb : Value} (h1 : OwSS e e2 m hi w va x.1) (h2 : OwI e2 lo m w vb x.2) (hm : lo ≤ m) (hm2 : m ≤ hi) : OwT e e2 lo hi w (.agg #[va, vb]) x := by
  obtain ⟨vs, h1⟩ := h1
  refine ⟨va, vb, vs, rfl, h1.wide hm (Nat.le_refl _) h1.hi_le, h2.wide (Nat.le_refl _) hm2 h1.hi_le, fun i u hu k hk hk2 => ?_⟩
  obtain ⟨xs, hx⟩ : ∃ xs, x.1[i]? = some xs := ⟨_, List.getElem?_eq_getElem (by rw [← h1.len]; exact (List.getElem?_eq_some_iff.1 hu).1)⟩
  have a1 := ((h1.rows i u xs hu hx).own.block k hk).1
  have a2 := h2.lt k hk2
  omega
/-- A tableau's two cells. -/
theorem OwT.cells (h : OwT e e2 lo hi w v x) : ∃ a n c a' n' c', v = .agg #[.slice a n c, .slice a' n' c'] := by
  obtain ⟨va, vb, vs, rfl, h⟩ := h
  obtain ⟨a, c, h1, _⟩ := h.rows.own.shape
  obtain ⟨a', c', h2, _⟩ := h.last.own.shape
  exact ⟨a, _, c, a', _, c', by rw [h1, h2]⟩
theorem IT.cells (h : IT lo hi w v x) : ∃ a n c a' n' c', v = .agg #[.slice a n c, .slice a' n' c'] := by
  obtain ⟨va, vb, rfl, h1, h2⟩ := h
  obtain ⟨a, c, h1⟩ := h1.shape
  obtain ⟨a', c', h2⟩ := h2.shape
  exact ⟨a, _, c, a', _, c', by rw [h1, h2]⟩
theorem two_cells {a a' : Option Addr} {n c n' c' : Nat} : ∀ u ∈ [Value.slice a n c, .slice a' n' c'], u.oneCell' = true := fun u hu => by
  simp only [List.mem_cons, List.not_mem_nil, or_false] at hu
  rcases hu with rfl | rfl <;> rfl
theorem IT.wide {lo' hi' : Nat} (h : IT lo hi w v x) (h1 : lo' ≤ lo) (h2 : hi ≤ hi') (hz : hi' ≤ w.heap.size) : IT lo' hi' w v x := by
  obtain ⟨va, vb, rfl, h3, h4⟩ := h
  exact ⟨va, vb, rfl, h3.wide IS.stable h1 h2 hz, h4.wide RI.stable h1 h2 hz⟩
end
end Go.Fw
