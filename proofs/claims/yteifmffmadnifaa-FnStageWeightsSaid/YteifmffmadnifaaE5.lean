/- Plain facts: the program's canonical trees, their branches, and the stage weights of them. -/
import Derived.Test.YteifmffmadnifaaE2
import Derived.Test.YteifmffmadnifaaD8
namespace Go.Rk
open Go.Fw Go.Proofs
/-- A list of levels behind a node of the level p. -/
def Ch : Int → List Int → Prop
  | _, [] => True
  | p, v :: r => (1 ≤ v ∧ v ≤ p + 1) ∧ Ch v r
theorem ch_of : ∀ (r : List Int) (p : Int), (∀ i (h : i < r.length), 1 ≤ r[i] ∧ r[i] ≤ (p :: r)[i]'(by simp; omega) + 1) → Ch p r
  | [], _, _ => trivial
  | v :: r, p, h => ⟨h 0 (by simp), ch_of r v fun i hi => h (i + 1) (by simp; omega)⟩
theorem ch_at : ∀ (r : List Int) (p : Int), Ch p r → ∀ i (h : i < r.length), 1 ≤ r[i] ∧ r[i] ≤ (p :: r)[i]'(by simp; omega) + 1
  | [], _, _, i, h => by simp at h
  | v :: r, p, hc, 0, _ => hc.1
  | v :: r, p, hc, i + 1, h => ch_at r v hc.2 i (by simpa using h)
theorem Lv.ch {t : List Int} (h : Lv t) : ∃ r, t = 0 :: r ∧ Ch 0 r := by
  cases t with
  | nil => have := h.pos; simp at this
  | cons a r =>
    have h0 := h.zero
    simp at h0
    subst h0
    refine ⟨r, rfl, ch_of r 0 fun i hi => ?_⟩
    have := h.at_ (i + 1) (by simp; omega)
    rw [levAt_pos (by omega) (by simp; omega), decide_eq_true_eq] at this
    simpa using this
theorem ch_lv {r : List Int} (h : Ch 0 r) : Lv (0 :: r) := ⟨by simp, fun i hi => by
  cases i with
  | zero => rfl
  | succ i =>
    have hir : i < r.length := by simpa using hi
    rw [levAt_pos (by omega) hi, decide_eq_true_eq]
    have := ch_at r 0 h i hir
    simpa using this⟩
theorem ch_pos : ∀ {r : List Int} {p : Int}, Ch p r → ∀ v ∈ r, 1 ≤ v
  | v :: r, _, h, u, hu => by
    rcases List.mem_cons.1 hu with rfl | hu
    · exact h.1.1
    · exact ch_pos h.2 u hu
theorem ch_le : ∀ {r : List Int} {p : Int}, Ch p r → ∀ v ∈ r, v ≤ p + r.length
  | v :: r, p, h, u, hu => by
    have := h.1.2
    rcases List.mem_cons.1 hu with rfl | hu
    · simp only [List.length_cons]; omega
    · have := ch_le h.2 u hu; simp only [List.length_cons]; omega
theorem ch_inc : ∀ {r : List Int} {p : Int}, Ch p r → Ch (p + 1) (r.map (· + 1))
  | [], _, _ => trivial
  | v :: r, p, h => ⟨⟨by have := h.1.1; show 1 ≤ v + 1; omega, by have := h.1.2; show v + 1 ≤ p + 1 + 1; omega⟩, ch_inc h.2⟩
theorem ch_append : ∀ {a b : List Int} {p : Int}, 0 ≤ p → Ch p a → (∀ q, 0 ≤ q → Ch q b) → Ch p (a ++ b)
  | [], _, _, hp, _, hb => hb _ hp
  | v :: a, _, _, _, ha, hb => ⟨ha.1, ch_append (by have := ha.1.1; omega) ha.2 hb⟩
/-- A root on a forest. -/
def rootL (bs : List (List Int)) : List Int := 0 :: bs.flatten.map (· + 1)
theorem ch_forest : ∀ {bs : List (List Int)}, (∀ b ∈ bs, Lv b) → ∀ q, 0 ≤ q → Ch q (bs.flatten.map (· + 1))
  | [], _, _, _ => trivial
  | b :: bs, h, q, hq => by
    obtain ⟨r, rfl, hr⟩ := (h b (by simp)).ch
    rw [List.flatten_cons, List.map_append]
    refine ch_append hq ?_ fun q' hq' => ch_forest (fun b' hb' => h b' (by simp [hb'])) q' hq'
    exact ⟨⟨by show (1 : Int) ≤ 0 + 1; omega, by show (0 : Int) + 1 ≤ q + 1; omega⟩, ch_inc hr⟩
theorem rootL_lv {bs : List (List Int)} (h : ∀ b ∈ bs, Lv b) : Lv (rootL bs) := ch_lv (ch_forest h 0 (Int.le_refl _))
theorem rootL_length (bs : List (List Int)) : (rootL bs).length = bs.flatten.length + 1 := by unfold rootL; rw [List.length_cons, List.length_map]
/-- The branches of a tree, pushed one by one. -/
theorem brI_fold (t : List Int) (h : 1 ≤ t.length) : ∀ i, 1 ≤ i → i ≤ t.length → brI t i = ((t.take i).drop 1).foldl pushB []
  | 0, h0, _ => by omega
  | 1, _, _ => by
    rw [brI_one]
    cases t with
    | nil => simp at h
    | cons a t => rfl
  | i + 2, _, h2 => by
    rw [brI_succ (by omega) (by omega), brI_fold t h (i + 1) (by omega) (by omega), List.take_succ_eq_append_getElem (show i + 1 < t.length by omega), List.drop_append_of_le_length (by rw [List.length_take]; omega), List.foldl_append]
    rfl
theorem branchesL_fold (t : List Int) (h : 1 ≤ t.length) : branchesL t = (t.drop 1).foldl pushB [] := by
  unfold branchesL
  rw [brI_fold t h t.length h (Nat.le_refl _), List.take_length]
theorem fold_more : ∀ (r : List Int) (out : List (List Int)) (c : List Int), (∀ v ∈ r, 1 ≤ v) → (r.map (· + 1)).foldl pushB (out ++ [c]) = out ++ [c ++ r]
  | [], out, c, _ => by simp
  | v :: r, out, c, h => by
    have hv := h v (by simp)
    rw [List.map_cons, List.foldl_cons, pushB_more out c (by omega), show v + 1 - 1 = v by omega, fold_more r out (c ++ [v]) (fun u hu => h u (by simp [hu])), List.append_assoc]
    rfl
theorem fold_forest : ∀ (bs out : List (List Int)), (∀ b ∈ bs, Lv b) → (bs.flatten.map (· + 1)).foldl pushB out = out ++ bs
  | [], out, _ => by simp
  | b :: bs, out, h => by
    obtain ⟨r, rfl, hr⟩ := (h b (by simp)).ch
    rw [List.flatten_cons, List.map_append, List.foldl_append, List.map_cons, List.foldl_cons]
    rw [show (0 : Int) + 1 = 1 from rfl, pushB_one, fold_more r out [0] (ch_pos hr), fold_forest bs _ (fun b' hb' => h b' (by simp [hb'])), List.append_assoc]
    rfl
theorem branchesL_root {bs : List (List Int)} (h : ∀ b ∈ bs, Lv b) : branchesL (rootL bs) = bs := by
  rw [branchesL_fold _ (by simp [rootL])]
  show (bs.flatten.map (· + 1)).foldl pushB [] = bs
  rw [fold_forest bs [] h, List.nil_append]
/-- How the program sorts branches. -/
def ltC (x y : List Int) : Bool := decide (cmpL y x < 0)
def ltT (x y : List Int) : Bool := decide (cmpT x y < 0)
def canonI : Nat → List Int → List Int
  | 0, _ => []
  | f + 1, t => rootL (insSort ltC ((branchesL t).map (canonI f)))
theorem flatten_length_perm {a b : List (List Int)} (h : a.Perm b) : a.flatten.length = b.flatten.length := (List.Perm.flatten h).length_eq
/-- The nodes of the branches are those of the tree without the root. -/
theorem pushB_count (out : List (List Int)) (l : Int) (h : l = 1 ∨ out ≠ []) : (pushB out l).flatten.length = out.flatten.length + 1 := by
  by_cases hl : l = 1
  · subst hl; rw [pushB_one]; simp
  · obtain ⟨init, b, rfl⟩ : ∃ init b, out = init ++ [b] := by
      rcases List.eq_nil_or_concat out with h' | ⟨i, b, h'⟩
      · rcases h with h | h
        · exact absurd h hl
        · exact absurd h' h
      · exact ⟨i, b, by simpa using h'⟩
    rw [pushB_more init b hl]
    simp
    omega
theorem pushB_ne (out : List (List Int)) (l : Int) (h : l = 1 ∨ out ≠ []) : pushB out l ≠ [] := by
  by_cases hl : l = 1
  · subst hl; rw [pushB_one]; simp
  · unfold pushB
    rw [if_neg hl]
    rcases h with h | h
    · exact absurd h hl
    · intro e
      have := congrArg List.length e
      simp at this
      exact h this
theorem fold_count : ∀ (r : List Int) (out : List (List Int)), out ≠ [] → (r.foldl pushB out).flatten.length = out.flatten.length + r.length
  | [], _, _ => rfl
  | v :: r, out, h => by
    rw [List.foldl_cons, fold_count r _ (pushB_ne out v (Or.inr h)), pushB_count out v (Or.inr h), List.length_cons]
    omega
theorem branchesL_count {t : List Int} (h : Lv t) : (branchesL t).flatten.length + 1 = t.length := by
  obtain ⟨r, rfl, hr⟩ := h.ch
  rw [branchesL_fold _ (by simp)]
  show (r.foldl pushB []).flatten.length + 1 = _
  cases r with
  | nil => rfl
  | cons v r =>
    have hv : v = 1 := by have := hr.1; omega
    subst hv
    rw [List.foldl_cons, pushB_one, fold_count _ _ (by simp)]
    simp
    omega
theorem canonI_ok (f : Nat) : ∀ {t : List Int}, Lv t → t.length ≤ f → Lv (canonI f t) ∧ (canonI f t).length = t.length ∧ branchesL (canonI f t) = insSort ltC ((branchesL t).map (canonI (f - 1))) := by
  induction f with
  | zero => intro t ht hn; exact absurd ht.pos (by omega)
  | succ f ih =>
    intro t ht hn
    have hb := branches_ok ht
    have hp := insSort_perm ltC ((branchesL t).map (canonI f))
    have hl : ∀ b ∈ insSort ltC ((branchesL t).map (canonI f)), Lv b := fun b hb' => by
      obtain ⟨c, hc, rfl⟩ := List.mem_map.1 (hp.mem_iff.1 hb')
      exact (ih (hb.2 c hc).1 (by have := (hb.2 c hc).2; omega)).1
    refine ⟨rootL_lv hl, ?_, branchesL_root hl⟩
    rw [canonI, rootL_length, flatten_length_perm hp]
    rw [← branchesL_count ht, List.length_flatten, List.length_flatten, List.map_map]
    congr 2
    refine List.map_congr_left fun c hc => ?_
    exact (ih (hb.2 c hc).1 (by have := (hb.2 c hc).2; omega)).2.1
/-- The product over branches does not hang on their order. -/
theorem mulsL_comm3 (out a b : List Int) : mulsL (mulsL out a) b = mulsL (mulsL out b) a := by
  apply List.ext_getElem
  · simp only [mulsL_length]; omega
  · intro i h1 h2
    rw [mulsL_length, mulsL_length] at h1
    have k1 : i < (mulsL out a).length := by rw [mulsL_length]; omega
    have k2 : i < (mulsL out b).length := by rw [mulsL_length]; omega
    rw [mulsL_get (by rw [mulsL_length, mulsL_length]; exact h1) k1 (by omega), mulsL_get h2 k2 (by omega), mulsL_get k1 (by omega) (by omega), mulsL_get k2 (by omega) (by omega)]
    have hnm : ∀ p q : Int, nm (nm p * q) = nm (p * q) := fun p q => by unfold nm; rw [Int.mul_emod, Int.emod_emod, ← Int.mul_emod]
    rw [hnm, hnm, Int.mul_right_comm]
theorem prodGo_perm (x : TabD) (g : List Int → List Int) {a b : List (List Int)} (h : a.Perm b) : ∀ out, prodGo x g out a = prodGo x g out b := by
  induction h with
  | nil => intro out; rfl
  | cons y _ ih => intro out; exact ih _
  | swap y z l => intro out; show prodGo x g (mulsL (mulsL out _) _) l = prodGo x g (mulsL (mulsL out _) _) l; rw [mulsL_comm3]
  | trans _ _ ih1 ih2 => intro out; exact (ih1 out).trans (ih2 out)
theorem prodGo_congr (x : TabD) {g g' : List Int → List Int} : ∀ (bs : List (List Int)), (∀ b ∈ bs, g b = g' b) → ∀ out, prodGo x g out bs = prodGo x g' out bs
  | [], _, _ => rfl
  | b :: bs, h, out => by rw [prodGo, prodGo, h b (by simp), prodGo_congr x bs (fun b' hb' => h b' (by simp [hb']))]
theorem prodGo_map (x : TabD) (g : List Int → List Int) (k : List Int → List Int) : ∀ (bs : List (List Int)) (out : List Int), prodGo x g out (bs.map k) = prodGo x (fun b => g (k b)) out bs
  | [], _ => rfl
  | b :: bs, out => by rw [List.map_cons, prodGo, prodGo, prodGo_map x g k bs]
theorem stW_fuel (x : TabD) (f : Nat) : ∀ {t : List Int}, Lv t → t.length ≤ f → ∀ f', f ≤ f' → stW x f' t = stW x f t := by
  induction f with
  | zero => intro t ht hn; exact absurd ht.pos (by omega)
  | succ f ih =>
    intro t ht hn f' hf
    obtain ⟨m, rfl⟩ : ∃ m, f' = m + 1 := ⟨f' - 1, by omega⟩
    have hb := branches_ok ht
    rw [stW, stW]
    exact prodGo_congr x _ (fun b hb' => ih (hb.2 b hb').1 (by have := (hb.2 b hb').2; omega) m (by omega)) _
theorem stW_canon (x : TabD) (f : Nat) : ∀ {t : List Int}, Lv t → t.length ≤ f → ∀ k, t.length ≤ k → stW x f (canonI k t) = stW x f t := by
  induction f with
  | zero => intro t ht hn; exact absurd ht.pos (by omega)
  | succ f ih =>
    intro t ht hn k hk
    have hb := branches_ok ht
    have hpos := ht.pos
    have hc := (canonI_ok k ht hk).2.2
    rw [stW, stW, hc, prodGo_perm x _ (insSort_perm _ _), prodGo_map]
    exact prodGo_congr x _ (fun b hb' => ih (hb.2 b hb').1 (by have := (hb.2 b hb').2; omega) (k - 1) (by have := (hb.2 b hb').2; omega)) _
def branchesF (t : List Int) : List (List Int) := insSort ltT (branchesL (canonI 8 t))
/-- What the law says: the stage weights of a tree out of those of its branches. -/
theorem stW_branches (x : TabD) {t : List Int} (ht : Lv t) (hn : t.length ≤ 8) : prodGo x (stW x 8) (List.replicate x.2.length 1) (branchesF t) = stW x 8 t := by
  have hc := canonI_ok 8 ht hn
  have hb := branches_ok hc.1
  unfold branchesF
  rw [prodGo_perm x _ (insSort_perm _ _), ← stW_canon x 8 ht hn 8 hn]
  show _ = prodGo x (stW x 7) _ (branchesL (canonI 8 t))
  refine prodGo_congr x _ (fun b hb' => ?_) _
  have h7 : b.length ≤ 7 := by have := (hb.2 b hb').2; omega
  exact stW_fuel x 7 (hb.2 b hb').1 h7 8 (by omega)
theorem branchesF_ok {t : List Int} (ht : Lv t) (hn : t.length ≤ 8) : ∀ b ∈ branchesF t, Lv b ∧ b.length ≤ 7 := fun b hb => by
  have hc := canonI_ok 8 ht hn
  have hb' := branches_ok hc.1
  have hm := (insSort_perm ltT _).mem_iff.1 hb
  have := hb'.2 b hm
  exact ⟨this.1, by have := this.2; omega⟩
end Go.Rk
