/- Plain facts: merging alike stages, and reducing. -/
import Derived.Test.YthepgmajeljdhaaGreatPlA
namespace Go.Rk
open Go.Fw Go.Proofs

/-! ### Increasing lists -/
/-- Two increasing lists with the same members are equal. -/
theorem incr_ext {xs ys : List Int} (hx : xs.Pairwise (· < ·)) (hy : ys.Pairwise (· < ·)) (h : ∀ v, v ∈ xs ↔ v ∈ ys) : xs = ys := by
  induction xs generalizing ys with
  | nil =>
    cases ys with
    | nil => rfl
    | cons y ys => exact absurd ((h y).2 (by simp)) (by simp)
  | cons x xs ih =>
    cases ys with
    | nil => exact absurd ((h x).1 (by simp)) (by simp)
    | cons y ys =>
      rw [List.pairwise_cons] at hx hy
      have exy : x = y := by
        have h1 := (h x).1 (by simp)
        have h2 := (h y).2 (by simp)
        rw [List.mem_cons] at h1 h2
        rcases h1 with h1 | h1
        · exact h1
        · rcases h2 with h2 | h2
          · exact h2.symm
          · have a := hy.1 x h1
            have b := hx.1 y h2
            omega
      subst exy
      congr 1
      refine ih hx.2 hy.2 fun v => ⟨fun hv => ?_, fun hv => ?_⟩
      · have := (h v).1 (by simp [hv])
        rw [List.mem_cons] at this
        rcases this with e | e
        · have := hx.1 v hv; omega
        · exact e
      · have := (h v).2 (by simp [hv])
        rw [List.mem_cons] at this
        rcases this with e | e
        · have := hy.1 v hv; omega
        · exact e

/-- Neighbours that are equal stand once. -/
def compactGo : Int → List Int → List Int
  | _, [] => []
  | p, x :: xs => if x = p then compactGo p xs else x :: compactGo x xs
def compactL : List Int → List Int
  | [] => []
  | x :: xs => x :: compactGo x xs
theorem compactGo_spec {p : Int} {xs : List Int} (h : (p :: xs).Pairwise (· ≤ ·)) : (p :: compactGo p xs).Pairwise (· < ·) ∧ ∀ v, v ∈ p :: compactGo p xs ↔ v ∈ p :: xs := by
  induction xs generalizing p with
  | nil => exact ⟨by simp [compactGo], fun v => by simp [compactGo]⟩
  | cons x xs ih =>
    have h0 := h
    rw [List.pairwise_cons] at h
    unfold compactGo
    by_cases e : x = p
    · rw [if_pos e]
      subst e
      obtain ⟨h1, h2⟩ := ih h.2
      exact ⟨h1, fun v => by rw [h2]; simp⟩
    · rw [if_neg e]
      obtain ⟨h1, h2⟩ := ih h.2
      have hpx : p < x := by have := h.1 x (by simp); omega
      refine ⟨?_, fun v => by rw [List.mem_cons, h2, List.mem_cons, List.mem_cons, List.mem_cons]⟩
      rw [List.pairwise_cons]
      refine ⟨fun v hv => ?_, h1⟩
      have h3 := (h2 v).1 hv
      rw [List.mem_cons] at h3
      rcases h3 with rfl | h3
      · exact hpx
      · have := (List.pairwise_cons.1 h.2).1 v h3
        omega
theorem compactL_spec {xs : List Int} (h : xs.Pairwise (· ≤ ·)) : (compactL xs).Pairwise (· < ·) ∧ ∀ v, v ∈ compactL xs ↔ v ∈ xs := by
  cases xs with
  | nil => exact ⟨by simp [compactL], fun v => by simp [compactL]⟩
  | cons x xs => exact compactGo_spec h

/-! ### The representatives of classes -/
def isRep (cls : List Int) (i : Nat) : Bool := decide (cls[i]?.getD 0 = ((i : Nat) : Int))
def repsTo (cls : List Int) (m : Nat) : List Int := ((List.range m).filter fun i => isRep cls i).map fun i => ((i : Nat) : Int)
def repsL (cls : List Int) : List Int := repsTo cls cls.length
theorem repsTo_succ (cls : List Int) (i : Nat) : repsTo cls (i + 1) = repsTo cls i ++ (if isRep cls i = true then [((i : Nat) : Int)] else []) := by
  unfold repsTo
  rw [List.range_succ, List.filter_append, List.map_append]
  congr 1
  cases h : isRep cls i <;> simp [h]
theorem repsTo_length (cls : List Int) (m : Nat) : (repsTo cls m).length ≤ m := by
  unfold repsTo
  rw [List.length_map]
  have := List.length_filter_le (fun (i : Nat) => isRep cls i) (List.range m)
  rw [List.length_range] at this
  exact this
theorem repsTo_mono (cls : List Int) {i m : Nat} (h : i ≤ m) : (repsTo cls i).length ≤ (repsTo cls m).length := by
  induction m with
  | zero => rw [show i = 0 from by omega]; exact Nat.le_refl _
  | succ m ih =>
    by_cases e : i = m + 1
    · rw [e]; exact Nat.le_refl _
    · have := ih (by omega)
      rw [repsTo_succ, List.length_append]
      omega
theorem repsTo_ok (cls : List Int) (m : Nat) : OrdOk m (repsTo cls m) := fun o ho => by
  obtain ⟨i, hi, rfl⟩ := List.mem_map.1 ho
  have := List.mem_range.1 (List.mem_filter.1 hi).1
  omega
theorem repsL_ok (cls : List Int) : OrdOk cls.length (repsL cls) := repsTo_ok cls cls.length
theorem repsL_length (cls : List Int) : (repsL cls).length ≤ cls.length := repsTo_length cls cls.length
theorem repsTo_incr (cls : List Int) (m : Nat) : (repsTo cls m).Pairwise (· < ·) := by
  unfold repsTo
  rw [List.pairwise_map]
  refine List.Pairwise.filter _ ?_
  exact List.Pairwise.imp (fun h => by omega) List.pairwise_lt_range
/-- Each class is named by one of its stages. -/
def Idem (cls : List Int) : Prop := Cls cls.length cls ∧ ∀ i, i < cls.length → isRep cls (cls[i]?.getD 0).toNat = true
theorem mem_reps {cls : List Int} (h : Idem cls) (v : Int) : v ∈ repsL cls ↔ v ∈ cls := by
  constructor
  · intro hv
    obtain ⟨i, hi, rfl⟩ := List.mem_map.1 hv
    have h1 := List.mem_range.1 (List.mem_filter.1 hi).1
    have h2 := of_decide_eq_true (List.mem_filter.1 hi).2
    rw [List.getElem?_eq_getElem h1, Option.getD_some] at h2
    rw [← h2]
    exact List.getElem_mem h1
  · intro hv
    obtain ⟨i, hi, rfl⟩ := List.mem_iff_getElem.1 hv
    have h1 := h.1.get hi
    have h2 := h.2 i hi
    rw [List.getElem?_eq_getElem hi, Option.getD_some] at h2
    refine List.mem_map.2 ⟨cls[i].toNat, List.mem_filter.2 ⟨List.mem_range.2 (by omega), h2⟩, by omega⟩
theorem compact_sorted {cls : List Int} (h : Idem cls) : compactL (cls.mergeSort fun x y => decide (x ≤ y)) = repsL cls := by
  have hs : (cls.mergeSort fun x y => decide (x ≤ y)).Pairwise (· ≤ ·) := by
    have := List.pairwise_mergeSort (le := fun (x y : Int) => decide (x ≤ y)) (fun a b c h1 h2 => by simp at h1 h2 ⊢; omega) (fun a b => by simp; omega) cls
    exact List.Pairwise.imp (fun h => by simpa using h) this
  obtain ⟨h1, h2⟩ := compactL_spec hs
  exact incr_ext h1 (repsTo_incr cls _) fun v => by rw [h2, List.mem_mergeSort, mem_reps h]
theorem idem_refine (xss : List (List Int)) (c : List Int) : Idem (refineL xss c) := by
  refine ⟨cls_refine xss (by rw [refineL_length]), fun i hi => ?_⟩
  rw [refineL_length] at hi
  have hs := leastC_spec xss c i
  have hm := hs.2.1
  unfold matchC at hm
  rw [Bool.and_eq_true] at hm
  have h1 := of_decide_eq_true hm.1
  have h2 := of_decide_eq_true hm.2
  rw [refineL_get? hi, Int.toNat_natCast]
  unfold isRep
  refine decide_eq_true ?_
  rw [refineL_get? (by omega)]
  have : leastC xss c (leastC xss c i) = leastC xss c i := leastN_eq (Nat.le_refl _) (matchC_self _ _ _) fun j hj => by
    have h3 := hs.2.2 j hj
    unfold matchC at h3 ⊢
    rw [h1, h2]
    exact h3
  omega
theorem itN_succ (xss : List (List Int)) (c : List Int) (t : Nat) : itN xss c (t + 1) = refineL xss (itN xss c t) := by
  induction t generalizing c with
  | zero => rfl
  | succ t ih => rw [itN, ih, itN]
theorem alikeL_length (x : TabD) : (alikeL x).length = x.2.length := by unfold alikeL; rw [itN_length, List.length_replicate]
theorem alikeL_idem {x : TabD} (h : 1 ≤ x.2.length) : Idem (alikeL x) := by
  unfold alikeL
  obtain ⟨t, ht⟩ : ∃ t, x.2.length = t + 1 := ⟨x.2.length - 1, by omega⟩
  rw [ht, itN_succ]
  exact idem_refine _ _

/-! ### Sums class by class, one class at a time -/
def sumGo (i : Int) : Int → List Int → List Int → Int
  | acc, a :: r, c :: cs => sumGo i (if c = i then nm (acc + a) else acc) r cs
  | acc, _, _ => acc
theorem sumGo_drop {i acc : Int} {row cls : List Int} {k : Nat} (h1 : k < row.length) (h2 : k < cls.length) : sumGo i acc (row.drop k) (cls.drop k) = sumGo i (if cls[k] = i then nm (acc + row[k]) else acc) (row.drop (k + 1)) (cls.drop (k + 1)) := by
  rw [List.drop_eq_getElem_cons h1, List.drop_eq_getElem_cons h2, sumGo]
theorem sumGo_end {i acc : Int} {row cls : List Int} {k : Nat} (h2 : cls.length ≤ k) : sumGo i acc (row.drop k) (cls.drop k) = acc := by
  rw [List.drop_eq_nil_of_le h2]
  cases row.drop k <;> rfl
theorem csGo_get {i : Nat} {out row cls : List Int} (hi : i < out.length) (hc : ∀ c ∈ cls, 0 ≤ c) : (csGo out row cls)[i]?.getD 0 = sumGo (i : Int) (out[i]?.getD 0) row cls := by
  induction row generalizing out cls with
  | nil => rfl
  | cons a r ih =>
    cases cls with
    | nil => rfl
    | cons c cs =>
      have hc0 := hc c (by simp)
      rw [csGo, sumGo, ih (by rw [List.length_set]; exact hi) (fun c' h' => hc c' (by simp [h']))]
      congr 1
      by_cases e : c = (i : Int)
      · subst e
        rw [if_pos rfl, Int.toNat_natCast, List.getElem?_set_self hi, Option.getD_some]
      · rw [if_neg e, List.getElem?_set_ne (by omega)]
theorem Cls.nonneg {n : Nat} {cls : List Int} (h : Cls n cls) : ∀ c ∈ cls, 0 ≤ c := fun c hc => by
  obtain ⟨i, hi, rfl⟩ := List.mem_iff_getElem.1 hc
  exact (h.get hi).1
theorem sumsL_get {i : Nat} {row cls : List Int} (hi : i < cls.length) (hc : Cls cls.length cls) : (sumsL row cls)[i]?.getD 0 = sumGo (i : Int) 0 row cls := by
  unfold sumsL
  rw [csGo_get (by rw [List.length_replicate]; exact hi) hc.nonneg, List.getElem?_replicate, if_pos hi]
  rfl

/-! ### Merging -/
def sumsT (x : TabD) (cls : List Int) : TabD := (x.1.map fun r => sumsL r cls, sumsL x.2 cls)
def mergeL (x : TabD) : TabD := permL (sumsT x (alikeL x)) (repsL (alikeL x))
def mergeStages (x : TabD) : TabD × Int := if isTab x = true then (mergeL x, 0) else (([], []), 1)
theorem csGo_allN {out row cls : List Int} (h : allN out = true) : allN (csGo out row cls) = true := by
  induction row generalizing out cls with
  | nil => exact h
  | cons a r ih =>
    cases cls with
    | nil => exact h
    | cons c cs => rw [csGo]; exact ih (allN_set h _ _ (isN_of (nm_bd _)))
theorem sumsL_allN (row cls : List Int) : allN (sumsL row cls) = true := csGo_allN (allN_zeros _)
theorem sumsT_tab {x : TabD} (hx : Tab x) {cls : List Int} (hc : cls.length = x.2.length) : Tab (sumsT x cls) := by
  have h2 : (sumsT x cls).2.length = x.2.length := by unfold sumsT; rw [sumsL_length, hc]
  refine ⟨by rw [h2]; exact hx.pos, by rw [h2]; exact hx.le8, by rw [h2]; unfold sumsT; rw [List.length_map]; exact hx.sq, sumsL_allN _ _, fun r hr => ?_⟩
  unfold sumsT at hr
  obtain ⟨r0, h0, rfl⟩ := List.mem_map.1 hr
  rw [h2]
  exact ⟨by rw [sumsL_length, hc], sumsL_allN _ _⟩
theorem permL_tab {x : TabD} (hx : Tab x) {o : List Int} (ho : OrdOk x.2.length o) (h0 : o ≠ []) (h8 : o.length ≤ 8) : Tab (permL x o) := by
  have hsq := hx.sq
  have e2 := permL_len2 x o
  have e1 := permL_len1 x o
  have hp : 1 ≤ o.length := List.length_pos_iff.2 h0
  refine ⟨by omega, by omega, by omega, allN_of fun v hv => ?_, fun r hr => ⟨?_, allN_of fun v hv => ?_⟩⟩
  · obtain ⟨i, hi, rfl⟩ := List.mem_map.1 hv
    have hb := ho i hi
    rw [List.getElem?_eq_getElem (show i.toNat < x.2.length by omega), Option.getD_some]
    have := hx.last
    unfold allN at this
    exact List.all_eq_true.1 this _ (List.getElem_mem _)
  · obtain ⟨i, hi, rfl⟩ := List.mem_map.1 hr
    rw [permRow_length, e2]
  · obtain ⟨i, hi, rfl⟩ := List.mem_map.1 hr
    obtain ⟨k, hk, rfl⟩ := List.mem_map.1 hv
    have hb := ho i hi
    have hb2 := ho k hk
    have hia : i.toNat < x.1.length := by omega
    have hrow := hx.row _ (List.getElem_mem hia)
    rw [at2_eq hia (show k.toNat < x.1[i.toNat].length by omega)]
    have := hrow.2
    unfold allN at this
    exact List.all_eq_true.1 this _ (List.getElem_mem _)
theorem reps_ne {cls : List Int} (h : Idem cls) (hp : 1 ≤ cls.length) : repsL cls ≠ [] := fun e => by
  have h1 := (mem_reps h cls[0]).2 (List.getElem_mem (by omega))
  rw [e] at h1
  simp at h1
theorem mergeL_tab {x : TabD} (hx : Tab x) : Tab (mergeL x) := by
  have h1 := hx.pos
  have h8 := hx.le8
  have hl := alikeL_length x
  have hi := alikeL_idem h1
  have hr := repsL_length (alikeL x)
  have hst := sumsT_tab hx hl
  have e2 : (sumsT x (alikeL x)).2.length = x.2.length := by unfold sumsT; rw [sumsL_length, hl]
  refine permL_tab hst ?_ (reps_ne hi (by omega)) (by omega)
  rw [e2, ← hl]
  exact repsL_ok _
theorem mergeL_len (x : TabD) : (mergeL x).2.length = (repsL (alikeL x)).length := permL_len2 _ _
theorem dropL_tab {x : TabD} (hx : Tab x) : Tab (dropL x) := by
  unfold dropL
  split
  · have : isTab neutralTableau = true := by kernel_rfl
    exact isTab_iff this
  · rename_i h
    have h1 := usedO_ok (u := usedL x)
    have h2 := usedO_len (usedL x)
    rw [usedL_length] at h1 h2
    exact permL_tab hx h1 h (by have := hx.le8; omega)

/-! ### All stages in order -/
theorem firstT_perm {x : TabD} (hx : Tab x) : permL x (firstT x.2.length) = x := by
  have hsq := hx.sq
  obtain ⟨x1, x2⟩ := x
  unfold permL firstT
  dsimp only at hsq ⊢
  congr 1
  · rw [List.map_map]
    apply List.ext_getElem
    · simp; omega
    · intro i h1 h2
      have hrow := hx.row _ (List.getElem_mem (show i < x1.length from h2))
      simp only [List.getElem_map, List.getElem_range, Function.comp_apply]
      unfold permRow
      rw [List.map_map]
      apply List.ext_getElem
      · simp; exact hrow.1.symm
      · intro k h3 h4
        simp only [List.getElem_map, List.getElem_range, Function.comp_apply, Int.toNat_natCast]
        exact at2_eq h2 h4
  · rw [List.map_map]
    apply List.ext_getElem
    · simp
    · intro i h1 h2
      simp only [List.getElem_map, List.getElem_range, Function.comp_apply, Int.toNat_natCast]
      rw [List.getElem?_eq_getElem h2]
      rfl
theorem filter_all {p : Nat → Bool} {n : Nat} (h : ((List.range n).filter p).length = n) : (List.range n).filter p = List.range n := by
  refine List.filter_eq_self.2 ?_
  have h2 := List.length_filter_eq_length_iff (p := p) (l := List.range n)
  rw [List.length_range] at h2
  exact h2.1 h
theorem usedO_full {u : List Bool} (h : (usedO u).length = u.length) : usedO u = firstT u.length := by
  unfold usedO at h ⊢
  rw [List.length_map] at h
  rw [filter_all h]
  rfl
theorem repsL_full {cls : List Int} (h : (repsL cls).length = cls.length) : repsL cls = firstT cls.length := by
  unfold repsL repsTo at h ⊢
  rw [List.length_map] at h
  rw [filter_all h]
  rfl
theorem cls_full {cls : List Int} (h : (repsL cls).length = cls.length) : cls = firstT cls.length := by
  have hall : ∀ i, i < cls.length → isRep cls i = true := by
    have h1 := h
    unfold repsL repsTo at h1
    rw [List.length_map] at h1
    have h2 := filter_all h1
    intro i hi2
    have : i ∈ (List.range cls.length).filter fun i => isRep cls i := by rw [h2]; exact List.mem_range.2 hi2
    exact (List.mem_filter.1 this).2
  apply List.ext_getElem
  · rw [firstT_length]
  · intro i h1 h2
    rw [firstT_get]
    have := of_decide_eq_true (hall i h1)
    rw [List.getElem?_eq_getElem h1] at this
    exact this
theorem csGo_first {row out : List Int} {k : Nat} (hk : k ≤ row.length) (hl : out.length = row.length) (h : allN row = true) (h1 : out.take k = row.take k) (h2 : ∀ j, k ≤ j → j < row.length → out[j]?.getD 0 = 0) :
    csGo out (row.drop k) ((firstT row.length).drop k) = row := by
  obtain ⟨m, hm⟩ : ∃ m, m = row.length - k := ⟨_, rfl⟩
  induction m generalizing k out with
  | zero =>
    rw [csGo_end (by rw [firstT_length]; omega)]
    have e : k = row.length := by omega
    rw [e, List.take_of_length_le (by omega), List.take_of_length_le (by omega)] at h1
    exact h1
  | succ m ih =>
    have hk2 : k < row.length := by omega
    rw [csGo_drop hk2 (by rw [firstT_length]; exact hk2), firstT_get, Int.toNat_natCast, h2 k (Nat.le_refl _) hk2, Int.zero_add]
    have hn : nm row[k] = row[k] := by
      have h3 : isN row[k] = true := by unfold allN at h; exact List.all_eq_true.1 h _ (List.getElem_mem _)
      exact nm_of h3
    rw [hn]
    refine ih (by omega) (by rw [List.length_set]; exact hl) ?_ (fun j h3 h4 => ?_) (by omega)
    · rw [List.take_set, List.take_succ_eq_append_getElem (show k < out.length by omega), List.set_append, if_neg (by rw [List.length_take]; omega), h1, List.take_succ_eq_append_getElem hk2]
      have e : k - (List.take k row).length = 0 := by rw [List.length_take]; omega
      rw [e]
      rfl
    · rw [List.getElem?_set_ne (by omega)]
      exact h2 j (by omega) h4
theorem sumsL_first {row : List Int} (h : allN row = true) : sumsL row (firstT row.length) = row := by
  unfold sumsL
  rw [firstT_length]
  exact csGo_first (k := 0) (Nat.zero_le _) (by simp) h (by simp) (fun j _ hj => by rw [List.getElem?_replicate, if_pos hj]; rfl)
theorem mergeL_same {x : TabD} (hx : Tab x) (h : (repsL (alikeL x)).length = x.2.length) : mergeL x = x := by
  have hl := alikeL_length x
  have h' : (repsL (alikeL x)).length = (alikeL x).length := by rw [hl]; exact h
  have ec := cls_full h'
  have er := repsL_full h'
  rw [hl] at ec er
  have es : sumsT x (alikeL x) = x := by
    rw [ec]
    unfold sumsT
    have e1 : x.1.map (fun r => sumsL r (firstT x.2.length)) = x.1 := by
      conv => rhs; rw [← List.map_id x.1]
      apply List.map_congr_left
      intro r hr
      have hrow := hx.row r hr
      rw [← hrow.1]
      exact sumsL_first hrow.2
    rw [e1, sumsL_first hx.last]
  unfold mergeL
  rw [es, er]
  exact firstT_perm hx
theorem dropL_same {x : TabD} (hx : Tab x) (h : (usedO (usedL x)).length = x.2.length) : dropL x = x := by
  have hp := hx.pos
  have h' : (usedO (usedL x)).length = (usedL x).length := by rw [usedL_length]; exact h
  have e := usedO_full h'
  rw [usedL_length] at e
  unfold dropL
  rw [if_neg (fun e0 => by rw [e0] at h; simp at h; omega), e]
  exact firstT_perm hx

/-! ### Reducing -/
def stepR (x : TabD) : TabD := mergeL (dropL x)
theorem stepR_tab {x : TabD} (hx : Tab x) : Tab (stepR x) := mergeL_tab (dropL_tab hx)
theorem merge_neutral : mergeL neutralTableau = neutralTableau := by
  have h : decide (mergeL neutralTableau = neutralTableau) = true := by kernel_rfl
  exact of_decide_eq_true h
theorem step_neutral : stepR neutralTableau = neutralTableau := by
  have h : decide (stepR neutralTableau = neutralTableau) = true := by kernel_rfl
  exact of_decide_eq_true h
theorem stepR_cases {x : TabD} (hx : Tab x) : (stepR x).2.length < x.2.length ∨ stepR x = x ∨ stepR x = neutralTableau := by
  by_cases h0 : usedO (usedL x) = []
  · right; right
    unfold stepR dropL
    rw [if_pos h0]
    exact merge_neutral
  · have hl := usedO_len (usedL x)
    rw [usedL_length] at hl
    have hd : (dropL x).2.length = (usedO (usedL x)).length := by unfold dropL; rw [if_neg h0]; exact permL_len2 _ _
    have hm := mergeL_len (dropL x)
    have hr := repsL_length (alikeL (dropL x))
    have ha := alikeL_length (dropL x)
    by_cases h1 : (usedO (usedL x)).length = x.2.length
    · have e := dropL_same hx h1
      by_cases h2 : (repsL (alikeL x)).length = x.2.length
      · right; left
        unfold stepR
        rw [e]
        exact mergeL_same hx h2
      · left
        unfold stepR
        rw [e] at hm hr ha ⊢
        omega
    · left
      unfold stepR
      omega
def meas (x : TabD) : Nat := 2 * x.2.length + (if x = neutralTableau then 0 else 1)
theorem stepR_meas {x : TabD} (hx : Tab x) (hne : stepR x ≠ x) : meas (stepR x) < meas x := by
  unfold meas
  rcases stepR_cases hx with h | h | h
  · split <;> split <;> omega
  · exact absurd h hne
  · rw [h] at hne ⊢
    rw [if_pos rfl, if_neg (fun e => hne e.symm)]
    have : neutralTableau.2.length = 1 := rfl
    have := hx.pos
    omega
def redN : Nat → TabD → TabD
  | 0, x => x
  | f + 1, x => if stepR x = x then x else redN f (stepR x)
def reduceL (x : TabD) : TabD := redN 20 x
theorem redN_stop {x : TabD} (h : stepR x = x) (f : Nat) : redN f x = x := by
  cases f with
  | zero => rfl
  | succ f => rw [redN, if_pos h]
theorem redN_step {x : TabD} (h : stepR x ≠ x) (f : Nat) : redN (f + 1) x = redN f (stepR x) := by rw [redN, if_neg h]
theorem meas_le {x : TabD} (hx : Tab x) : meas x ≤ 17 := by
  unfold meas
  have := hx.le8
  split <;> omega
theorem redN_tab {x : TabD} (hx : Tab x) (f : Nat) : Tab (redN f x) := by
  induction f generalizing x with
  | zero => exact hx
  | succ f ih =>
    unfold redN
    split
    · exact hx
    · exact ih (stepR_tab hx)
def reduceTableau (x : TabD) : TabD × Int := if isTab x = true then (reduceL x, 0) else (([], []), 1)
def isReduced (x : TabD) : Bool × Int := if isTab x = true then (decide (dropL x = x) && decide (mergeL x = x), 0) else (false, 1)
theorem tab_cnt {x : TabD} (hx : Tab x) : tabCnt x ≤ 1000 := by
  have h8 := hx.le8
  have hsq := hx.sq
  have h1 : ∀ (xs : List (List Int)), (∀ r ∈ xs, r.length ≤ 8) → cntSS xs ≤ 8 * xs.length := fun xs h => by
    induction xs with
    | nil => simp [cntSS]
    | cons r xs ih =>
      rw [cntSS_cons, List.length_cons]
      have := h r (by simp)
      have := ih fun r' h' => h r' (by simp [h'])
      omega
  have := h1 x.1 fun r hr => by have := (hx.row r hr).1; omega
  unfold tabCnt
  omega
theorem mergeStages_len (x : TabD) : tabCnt (mergeStages x).1 ≤ 1000000 := by
  unfold mergeStages
  split
  · rename_i h
    have := tab_cnt (mergeL_tab (isTab_iff h))
    show tabCnt (mergeL x) ≤ 1000000
    omega
  · decide
theorem reduceTableau_len (x : TabD) : tabCnt (reduceTableau x).1 ≤ 1000000 := by
  unfold reduceTableau
  split
  · rename_i h
    have := tab_cnt (redN_tab (isTab_iff h) 20)
    show tabCnt (redN 20 x) ≤ 1000000
    omega
  · decide
end Go.Rk
/- Plain facts: a list that has each stage once. -/
namespace Go.Rk
open Go.Fw Go.Proofs
def sortL (xs : List Int) : List Int := xs.mergeSort fun x y => decide (x ≤ y)
theorem sortL_length (xs : List Int) : (sortL xs).length = xs.length := List.length_mergeSort _
theorem firstT_mem {n : Nat} {v : Int} : v ∈ firstT n ↔ 0 ≤ v ∧ v < n := by
  unfold firstT
  rw [List.mem_map]
  constructor
  · rintro ⟨i, hi, rfl⟩
    have := List.mem_range.1 hi
    omega
  · rintro ⟨h0, h1⟩
    exact ⟨v.toNat, List.mem_range.2 (by omega), by omega⟩
theorem firstT_succ (n : Nat) : firstT (n + 1) = firstT n ++ [((n : Nat) : Int)] := by unfold firstT; rw [List.range_succ, List.map_append]; rfl
theorem firstT_incr (n : Nat) : (firstT n).Pairwise (· < ·) := by
  unfold firstT
  rw [List.pairwise_map]
  exact List.Pairwise.imp (fun h => by omega) List.pairwise_lt_range
theorem perm_first {n : Nat} {xs : List Int} (hl : xs.length = n) (h : ∀ i : Nat, i < n → ((i : Nat) : Int) ∈ xs) : xs.Perm (firstT n) := by
  induction n generalizing xs with
  | zero =>
    have : xs = [] := List.eq_nil_of_length_eq_zero hl
    subst this
    exact List.Perm.refl _
  | succ n ih =>
    have hm := h n (by omega)
    have h1 := List.perm_cons_erase hm
    have hle : (xs.erase ((n : Nat) : Int)).length = n := by rw [List.length_erase_of_mem hm]; omega
    have h2 := ih hle fun i hi => (List.mem_erase_of_ne (by omega)).2 (h i (by omega))
    rw [firstT_succ]
    exact (h1.trans (h2.cons _)).trans (List.perm_append_singleton _ _).symm
theorem sort_first {n : Nat} {xs : List Int} : sortL xs = firstT n ↔ xs.length = n ∧ ∀ i : Nat, i < n → ((i : Nat) : Int) ∈ xs := by
  constructor
  · intro h
    have hl := sortL_length xs
    rw [h, firstT_length] at hl
    refine ⟨hl.symm, fun i hi => ?_⟩
    have : ((i : Nat) : Int) ∈ sortL xs := by rw [h]; exact firstT_mem.2 (by omega)
    unfold sortL at this
    exact List.mem_mergeSort.1 this
  · rintro ⟨hl, h⟩
    have hp := perm_first hl h
    have hs : (sortL xs).Pairwise (· ≤ ·) := by
      have := List.pairwise_mergeSort (le := fun (x y : Int) => decide (x ≤ y)) (fun a b c h1 h2 => by simp at h1 h2 ⊢; omega) (fun a b => by simp; omega) xs
      exact List.Pairwise.imp (fun h => by simpa using h) this
    have hp2 : (sortL xs).Perm (firstT n) := (List.mergeSort_perm xs _).trans hp
    have hne : (sortL xs).Pairwise (· ≠ ·) := (hp2.pairwise_iff (fun h => Ne.symm h)).2 (List.Pairwise.imp (fun h => by omega) (firstT_incr n))
    refine incr_ext ?_ (firstT_incr n) fun v => hp2.mem_iff
    exact List.Pairwise.imp₂ (fun a b (h1 : a ≤ b) (h2 : a ≠ b) => by omega) hs hne
def permuteStages (x : TabD) (o : List Int) : TabD × Int := if isTab x = true then (if sortL o = firstT x.2.length then (permL x o, 0) else (([], []), 2)) else (([], []), 1)
theorem sort_ok {n : Nat} {o : List Int} (h : sortL o = firstT n) : o.length = n ∧ OrdOk n o := by
  refine ⟨(sort_first.1 h).1, fun v hv => ?_⟩
  have : v ∈ sortL o := List.mem_mergeSort.2 hv
  rw [h, firstT_mem] at this
  exact this
theorem permuteStages_len (x : TabD) (o : List Int) : tabCnt (permuteStages x o).1 ≤ 1000000 := by
  unfold permuteStages
  split
  · rename_i h
    have hx := isTab_iff h
    split
    · rename_i h2
      obtain ⟨h3, h4⟩ := sort_ok h2
      have h8 := hx.le8
      have hp := hx.pos
      have := tab_cnt (permL_tab hx h4 (fun e => by rw [e] at h3; simp at h3; omega) (by omega))
      show tabCnt (permL x o) ≤ 1000000
      omega
    · decide
  · decide
end Go.Rk
/- Plain facts: representatives one by one. -/
namespace Go.Rk
open Go.Fw Go.Proofs
theorem repsTo_pre (cls : List Int) {k m : Nat} (h : k ≤ m) : ∃ r, repsTo cls m = repsTo cls k ++ r := by
  induction m with
  | zero => exact ⟨[], by rw [show k = 0 from by omega]; simp⟩
  | succ m ih =>
    by_cases e : k = m + 1
    · exact ⟨[], by rw [e]; simp⟩
    · obtain ⟨r, hr⟩ := ih (by omega)
      exact ⟨r ++ (if isRep cls m = true then [((m : Nat) : Int)] else []), by rw [repsTo_succ, hr, List.append_assoc]⟩
theorem reps_take {cls : List Int} {k : Nat} (hk : k ≤ cls.length) : (repsL cls).take (repsTo cls k).length = repsTo cls k := by
  obtain ⟨r, hr⟩ := repsTo_pre cls hk
  unfold repsL
  rw [hr, List.take_left']
  rfl
theorem reps_get {cls : List Int} {k : Nat} (hk : k < cls.length) (h : isRep cls k = true) : ∃ hlt : (repsTo cls k).length < (repsL cls).length, (repsL cls)[(repsTo cls k).length] = ((k : Nat) : Int) := by
  obtain ⟨r, hr⟩ := repsTo_pre cls (show k + 1 ≤ cls.length from hk)
  rw [repsTo_succ, if_pos h] at hr
  have hr' : repsL cls = repsTo cls k ++ ([((k : Nat) : Int)] ++ r) := by unfold repsL; rw [hr, List.append_assoc]
  have hlt : (repsTo cls k).length < (repsL cls).length := by rw [hr']; simp
  refine ⟨hlt, ?_⟩
  have : (repsL cls)[(repsTo cls k).length]? = some ((k : Nat) : Int) := by rw [hr']; simp
  rw [List.getElem?_eq_getElem hlt] at this
  exact Option.some.inj this
theorem repsTo_succ_len {cls : List Int} {k : Nat} (h : isRep cls k = true) : (repsTo cls (k + 1)).length = (repsTo cls k).length + 1 := by rw [repsTo_succ, if_pos h]; simp
theorem repsTo_skip {cls : List Int} {k : Nat} (h : isRep cls k = false) : repsTo cls (k + 1) = repsTo cls k := by rw [repsTo_succ, if_neg (by rw [h]; decide)]; simp
theorem isRep_iff {cls : List Int} {k : Nat} (hk : k < cls.length) : isRep cls k = decide (cls[k] = ((k : Nat) : Int)) := by unfold isRep; rw [List.getElem?_eq_getElem hk]; rfl
theorem permL_get1 {x : TabD} {o : List Int} {c : Nat} (h : c < (permL x o).1.length) (hc : c < o.length) : (permL x o).1[c] = permRow x o o[c] := by simp [permL]
theorem permL_get2 {x : TabD} {o : List Int} {c : Nat} (h : c < (permL x o).2.length) (hc : c < o.length) : (permL x o).2[c] = x.2[o[c].toNat]?.getD 0 := by simp [permL]
end Go.Rk
