/- Plain facts: level lists, their branches, the stage weights of a tree. -/
import Derived.Test.YtgjpdjblchgfdaaPl8
namespace Go.Rk
open Go.Fw Go.Proofs

def levAt (t : List Int) (i : Nat) : Bool := if i = 0 then decide (t[0]?.getD 1 = 0) else decide (1 ≤ t[i]?.getD 0 ∧ t[i]?.getD 0 ≤ t[i - 1]?.getD 0 + 1)
def isLev (t : List Int) : Bool := decide (1 ≤ t.length ∧ t.length ≤ 8) && (List.range t.length).all (levAt t)
theorem levAt_zero {t : List Int} (h : 0 < t.length) : levAt t 0 = decide (t[0] = 0) := by
  unfold levAt; rw [if_pos rfl, List.getElem?_eq_getElem h]; rfl
theorem levAt_pos {t : List Int} {i : Nat} (h0 : 1 ≤ i) (h : i < t.length) : levAt t i = decide (1 ≤ t[i] ∧ t[i] ≤ t[i - 1] + 1) := by
  unfold levAt; rw [if_neg (by omega), List.getElem?_eq_getElem h, List.getElem?_eq_getElem (by omega)]; rfl
theorem isLev_false {t : List Int} {i : Nat} (hi : i < t.length) (h : levAt t i = false) : isLev t = false := by
  unfold isLev; rw [rangeAll_false hi h, Bool.and_false]
theorem isLev_len {t : List Int} (h : ¬ (1 ≤ t.length ∧ t.length ≤ 8)) : isLev t = false := by unfold isLev; rw [decide_eq_false h]; rfl
theorem isLev_true {t : List Int} (h : 1 ≤ t.length ∧ t.length ≤ 8) (h2 : ∀ i, i < t.length → levAt t i = true) : isLev t = true := by
  unfold isLev; rw [decide_eq_true h, rangeAll_true h2]; rfl
/-- A level list. -/
structure Lv (t : List Int) : Prop where
  pos : 1 ≤ t.length
  at_ : ∀ i, i < t.length → levAt t i = true
theorem isLev_iff {t : List Int} (h : isLev t = true) : Lv t ∧ t.length ≤ 8 := by
  unfold isLev at h
  rw [Bool.and_eq_true, decide_eq_true_eq] at h
  exact ⟨⟨h.1.1, fun i hi => List.all_eq_true.1 h.2 i (List.mem_range.2 hi)⟩, h.1.2⟩
theorem Lv.zero {t : List Int} (h : Lv t) : t[0]'(h.pos) = 0 := by
  have := h.at_ 0 h.pos
  rw [levAt_zero h.pos] at this
  exact of_decide_eq_true this
theorem Lv.next {t : List Int} (h : Lv t) {i : Nat} (h0 : 1 ≤ i) (hi : i < t.length) : 1 ≤ t[i] ∧ t[i] ≤ t[i - 1] + 1 := by
  have := h.at_ i hi
  rw [levAt_pos h0 hi] at this
  exact of_decide_eq_true this
theorem Lv.bd {t : List Int} (h : Lv t) {i : Nat} (hi : i < t.length) : 0 ≤ t[i] ∧ t[i] ≤ i := by
  induction i with
  | zero => have := h.zero; omega
  | succ i ih =>
    have h1 := h.next (i := i + 1) (by omega) hi
    have h2 := ih (by omega)
    simp only [Nat.add_sub_cancel] at h1
    omega
theorem Lv.snoc {b : List Int} {y z : Int} (h : Lv b) (hz : b.getLast? = some z) (h1 : 1 ≤ y) (h2 : y ≤ z + 1) : Lv (b ++ [y]) := by
  have hp := h.pos
  refine ⟨by simp, fun i hi => ?_⟩
  rw [List.length_append, List.length_singleton] at hi
  by_cases hlt : i < b.length
  · have := h.at_ i hlt
    unfold levAt at this ⊢
    rw [List.getElem?_append_left hp, List.getElem?_append_left hlt, List.getElem?_append_left (by omega)]
    exact this
  · have hib : i = b.length := by omega
    subst hib
    rw [List.getLast?_eq_getElem?] at hz
    unfold levAt
    rw [if_neg (by omega), List.getElem?_append_right (Nat.le_refl _), List.getElem?_append_left (by omega), hz, Nat.sub_self]
    exact decide_eq_true ⟨h1, h2⟩
theorem Lv.one : Lv [0] := ⟨by decide, fun i hi => by
  have : i = 0 := by simp at hi; omega
  subst this
  rfl⟩

def pushB (out : List (List Int)) (l : Int) : List (List Int) :=
  if l = 1 then (out ++ [[]]).set out.length ([] ++ [l - 1]) else out.set (out.length - 1) ((out[out.length - 1]?.getD []) ++ [l - 1])
theorem pushB_one (out : List (List Int)) : pushB out 1 = out ++ [[0]] := by
  unfold pushB; rw [if_pos rfl, List.set_append_right _ _ (Nat.le_refl _), Nat.sub_self]; rfl
theorem pushB_more (init : List (List Int)) (b : List Int) {l : Int} (h : l ≠ 1) : pushB (init ++ [b]) l = init ++ [b ++ [l - 1]] := by
  unfold pushB
  rw [if_neg h]
  have e : (init ++ [b]).length - 1 = init.length := by simp
  rw [e, List.set_append_right _ _ (Nat.le_refl _), Nat.sub_self, List.getElem?_append_right (Nat.le_refl _), Nat.sub_self]
  rfl
/-- The branches of the first i levels. -/
def brI (t : List Int) : Nat → List (List Int)
  | 0 => []
  | i + 1 => if i = 0 then [] else pushB (brI t i) (t[i]?.getD 0)
def branchesL (t : List Int) : List (List Int) := brI t t.length
theorem brI_one (t : List Int) : brI t 1 = [] := by unfold brI; rw [if_pos rfl]
theorem brI_succ {t : List Int} {i : Nat} (h0 : 1 ≤ i) (h : i < t.length) : brI t (i + 1) = pushB (brI t i) t[i] := by
  rw [brI, if_neg (by omega), List.getElem?_eq_getElem h]; rfl
structure BrOk (t : List Int) (i : Nat) (out : List (List Int)) : Prop where
  one : i = 1 → out = []
  last : 2 ≤ i → ∃ init b, out = init ++ [b] ∧ b.getLast? = some (t[i - 1]?.getD 0 - 1)
  each : ∀ b ∈ out, Lv b ∧ b.length + 1 ≤ i
  len : out.length + 1 ≤ i
theorem brOk {t : List Int} (h : Lv t) {i : Nat} (h0 : 1 ≤ i) (hi : i ≤ t.length) : BrOk t i (brI t i) := by
  induction i with
  | zero => omega
  | succ i ih =>
    by_cases hz : i = 0
    · subst hz
      rw [brI_one]
      exact ⟨fun _ => rfl, fun h => by omega, fun b hb => by simp at hb, by simp⟩
    · have hi' : i < t.length := by omega
      have hk := ih (by omega) (by omega)
      rw [brI_succ (by omega) hi']
      have hl := h.next (by omega) hi'
      by_cases h1 : t[i] = 1
      · rw [h1, pushB_one]
        refine ⟨fun h => by omega, fun _ => ⟨_, _, rfl, ?_⟩, fun b hb => ?_, by have := hk.len; simp; omega⟩
        · rw [Nat.add_sub_cancel, List.getElem?_eq_getElem hi', h1]; rfl
        · rcases List.mem_append.1 hb with hb | hb
          · have := hk.each b hb
            exact ⟨this.1, by omega⟩
          · simp only [List.mem_singleton] at hb
            subst hb
            exact ⟨Lv.one, by simp; omega⟩
      · have hi2 : 2 ≤ i := by
          apply Classical.byContradiction
          intro hn
          have : i = 1 := by omega
          subst this
          have hz0 := h.zero
          simp only [Nat.sub_self] at hl
          omega
        obtain ⟨init, b, hib, hlast⟩ := hk.last hi2
        have hb := hk.each b (by rw [hib]; simp)
        have hlen := hk.len
        rw [hib] at hlen ⊢
        rw [pushB_more init b h1]
        rw [List.getElem?_eq_getElem (by omega)] at hlast
        refine ⟨fun h => by omega, fun _ => ⟨_, _, rfl, ?_⟩, fun b' hb' => ?_, by simp at hlen ⊢; omega⟩
        · rw [Nat.add_sub_cancel, List.getElem?_eq_getElem hi']; simp
        · rcases List.mem_append.1 hb' with hb' | hb'
          · have := hk.each b' (by rw [hib]; simp [hb'])
            exact ⟨this.1, by omega⟩
          · simp only [List.mem_singleton] at hb'
            subst hb'
            exact ⟨hb.1.snoc hlast (by omega) (by simp only [Option.getD_some]; omega), by simp; omega⟩
theorem branches_ok {t : List Int} (h : Lv t) : (branchesL t).length + 1 ≤ t.length ∧ ∀ b ∈ branchesL t, Lv b ∧ b.length + 1 ≤ t.length :=
  ⟨(brOk h h.pos (Nat.le_refl _)).len, (brOk h h.pos (Nat.le_refl _)).each⟩

/-- The matrix times a list. -/
def appL (x : TabD) (v : List Int) : List Int := x.1.map fun r => dotL r v
theorem appL_length (x : TabD) (v : List Int) : (appL x v).length = x.1.length := by simp [appL]
theorem allN_appL (x : TabD) (v : List Int) : allN (appL x v) = true := allN_of fun y hy => by
  obtain ⟨r, _, rfl⟩ := List.mem_map.1 hy
  exact nm_isN _
def prodGo (x : TabD) (g : List Int → List Int) : List Int → List (List Int) → List Int
  | out, [] => out
  | out, b :: bs => prodGo x g (mulsL out (appL x (g b))) bs
theorem prodGo_drop {x : TabD} {g : List Int → List Int} {bs : List (List Int)} {i : Nat} (h : i < bs.length) (out : List Int) : prodGo x g out (bs.drop i) = prodGo x g (mulsL out (appL x (g bs[i]))) (bs.drop (i + 1)) := by
  rw [List.drop_eq_getElem_cons h, prodGo]
/-- The stage weights of a tree with at most f nodes. -/
def stW (x : TabD) : Nat → List Int → List Int
  | 0, _ => List.replicate x.2.length 1
  | f + 1, t => prodGo x (stW x f) (List.replicate x.2.length 1) (branchesL t)
theorem prodGo_ok {x : TabD} (hx : x.1.length = x.2.length) (g : List Int → List Int) (bs : List (List Int)) (out : List Int) (h1 : out.length = x.2.length) (h2 : allN out = true) : (prodGo x g out bs).length = x.2.length ∧ allN (prodGo x g out bs) = true := by
  induction bs generalizing out with
  | nil => exact ⟨h1, h2⟩
  | cons b bs ih => exact ih _ (by rw [mulsL_length, appL_length]; omega) (allN_mulsL _ _)
theorem stW_ok {x : TabD} (hx : x.1.length = x.2.length) (f : Nat) (t : List Int) : (stW x f t).length = x.2.length ∧ allN (stW x f t) = true := by
  cases f with
  | zero => exact ⟨by simp [stW], allN_ones _⟩
  | succ f => exact prodGo_ok hx _ _ _ (by simp) (allN_ones _)
theorem muls_step {out w : List Int} (hl : w.length = out.length) {i : Nat} (hi : i < out.length) :
    ((mulsL out w).take i ++ out.drop i).set i (nm (out[i] * w[i])) = (mulsL out w).take (i + 1) ++ out.drop (i + 1) := by
  have hm : (mulsL out w).length = out.length := by rw [mulsL_length]; omega
  have hk : ((mulsL out w).take i).length = i := by rw [List.length_take]; omega
  rw [List.set_append_right _ _ (by omega), hk, Nat.sub_self, List.drop_eq_getElem_cons hi, List.set_cons_zero]
  rw [List.take_succ_eq_append_getElem (show i < (mulsL out w).length by omega), mulsL_get _ hi (by omega), List.append_assoc]
  rfl
theorem muls_get {out w : List Int} (hl : w.length = out.length) {i : Nat} (hi : i < out.length) : ((mulsL out w).take i ++ out.drop i)[i]? = some out[i] := by
  have hm : (mulsL out w).length = out.length := by rw [mulsL_length]; omega
  have hk : ((mulsL out w).take i).length = i := by rw [List.length_take]; omega
  rw [List.getElem?_append_right (by omega), hk, Nat.sub_self, List.getElem?_drop, Nat.add_zero, List.getElem?_eq_getElem hi]
theorem muls_len {out w : List Int} (hl : w.length = out.length) {i : Nat} (hi : i ≤ out.length) : ((mulsL out w).take i ++ out.drop i).length = out.length := by
  have hm : (mulsL out w).length = out.length := by rw [mulsL_length]; omega
  rw [List.length_append, List.length_take, List.length_drop]; omega
def weightL (x : TabD) (t : List Int) : Int := dotL x.2 (stW x 8 t)
def stageWeights (x : TabD) (t : List Int) : List Int × Int := if isTab x = true ∧ isLev t = true then (stW x 8 t, 0) else ([], 1)
def weightOf (x : TabD) (t : List Int) : Int × Int := if isTab x = true ∧ isLev t = true then (weightL x t, 0) else (0, 1)
theorem stageWeights_len (x : TabD) (t : List Int) : (stageWeights x t).1.length ≤ 1000000 := by
  unfold stageWeights
  split
  · rename_i h
    have hx := isTab_iff h.1
    have h1 := hx.le8
    have := (stW_ok hx.sq 8 t).1
    show (stW x 8 t).length ≤ 1000000
    omega
  · simp
end Go.Rk
