/- Plain facts: sums over stages, and tableaus with the same weights. -/
import Derived.Test.YthepgmajeljdhaaGreatPlB
namespace Go.Rk
open Go.Fw Go.Proofs
/-! ### Sums -/
def sumR (f : Nat → Int) : Nat → Int
  | 0 => 0
  | n + 1 => sumR f n + f n
theorem sumR_congr {f g : Nat → Int} : ∀ {n : Nat}, (∀ k, k < n → f k = g k) → sumR f n = sumR g n
  | 0, _ => rfl
  | n + 1, h => by rw [sumR, sumR, sumR_congr fun k hk => h k (by omega), h n (by omega)]
theorem sumR_zero {f : Nat → Int} : ∀ {n : Nat}, (∀ k, k < n → f k = 0) → sumR f n = 0
  | 0, _ => rfl
  | n + 1, h => by rw [sumR, sumR_zero fun k hk => h k (by omega), h n (by omega)]; rfl
theorem sumR_add (f g : Nat → Int) : ∀ n, sumR (fun k => f k + g k) n = sumR f n + sumR g n
  | 0 => rfl
  | n + 1 => by rw [sumR, sumR, sumR, sumR_add f g n]; omega
theorem sumR_mul (f : Nat → Int) (c : Int) : ∀ n, sumR (fun k => f k * c) n = sumR f n * c
  | 0 => by simp [sumR]
  | n + 1 => by rw [sumR, sumR, sumR_mul f c n, Int.add_mul]
theorem sumR_one {f : Nat → Int} {i : Nat} : ∀ {n : Nat}, i < n → sumR (fun k => if k = i then f k else 0) n = f i
  | 0, h => by omega
  | n + 1, h => by
    rw [sumR]
    by_cases e : n = i
    · subst e
      rw [if_pos rfl, sumR_zero fun k hk => if_neg (by omega)]; omega
    · rw [if_neg e, sumR_one (by omega)]; omega
theorem sumR_comm (f : Nat → Nat → Int) (m : Nat) : ∀ n, sumR (fun k => sumR (fun l => f k l) m) n = sumR (fun l => sumR (fun k => f k l) n) m
  | 0 => by rw [sumR]; exact (sumR_zero fun _ _ => rfl).symm
  | n + 1 => by
    rw [sumR, sumR_comm f m n, ← sumR_add]
    exact sumR_congr fun l _ => rfl
theorem sumR_split (f : Nat → Int) (s : Nat) : ∀ n, sumR f (s + n) = sumR f s + sumR (fun k => f (s + k)) n
  | 0 => by rw [Nat.add_zero, sumR, Int.add_zero]
  | n + 1 => by rw [show s + (n + 1) = (s + n) + 1 from rfl, sumR, sumR_split f s n, sumR]; omega
/-- Only some places count. -/
theorem sumR_list {s : Nat} : ∀ {o : List Nat} {f : Nat → Int}, o.Nodup → (∀ i ∈ o, i < s) → (∀ k, k < s → k ∉ o → f k = 0) → sumR f s = (o.map f).sum
  | [], f, _, _, h => by rw [sumR_zero fun k hk => h k hk (by simp)]; rfl
  | i :: o, f, hn, hi, h => by
    obtain ⟨hno, hn'⟩ := List.nodup_cons.1 hn
    have h1 : sumR f s = sumR (fun k => if k = i then f k else 0) s + sumR (fun k => if k = i then 0 else f k) s := by
      rw [← sumR_add]
      refine sumR_congr fun k _ => ?_
      by_cases e : k = i
      · rw [if_pos e, if_pos e]; omega
      · rw [if_neg e, if_neg e]; omega
    have h2 := sumR_list (f := fun k => if k = i then 0 else f k) hn' (fun j hj => hi j (by simp [hj])) fun k hk hk2 => by
      by_cases e : k = i
      · rw [if_pos e]
      · rw [if_neg e]; exact h k hk (by simp [e, hk2])
    have h3 : o.map (fun k => if k = i then 0 else f k) = o.map f := List.map_congr_left fun k hk => if_neg fun e => hno (by rw [← e]; exact hk)
    rw [h1, sumR_one (hi i (by simp)), h2, h3, List.map_cons, List.sum_cons]
theorem sum_getD (f : Nat → Int) : ∀ (o : List Nat), (o.map f).sum = sumR (fun l => f (o.getD l 0)) o.length
  | [] => rfl
  | i :: o => by
    rw [List.map_cons, List.sum_cons, sum_getD f o, List.length_cons, Nat.add_comm o.length 1, sumR_split]
    show f i + _ = sumR _ (0 + 1) + _
    rw [sumR, sumR]
    congr 1
    · show f i = 0 + f i; omega
    · exact sumR_congr fun l _ => by rw [Nat.add_comm 1 l]; rfl
theorem sum_zip : ∀ (r v : List Int), r.length = v.length → (List.zipWith (· * ·) r v).sum = sumR (fun k => r.getD k 0 * v.getD k 0) r.length
  | [], _, _ => by simp [sumR]
  | a :: r, [], h => by simp at h
  | a :: r, b :: v, h => by
    rw [List.zipWith_cons_cons, List.sum_cons, sum_zip r v (by simpa using h), List.length_cons, Nat.add_comm r.length 1, sumR_split]
    show a * b + _ = sumR _ (0 + 1) + _
    rw [sumR, sumR]
    congr 1
    · show a * b = 0 + a * b; omega
    · exact sumR_congr fun l _ => by rw [Nat.add_comm 1 l]; rfl
/-! ### Modulo 10007 -/
theorem nm_sum {f g : Nat → Int} : ∀ {n : Nat}, (∀ k, k < n → nm (f k) = nm (g k)) → nm (sumR f n) = nm (sumR g n)
  | 0, _ => rfl
  | n + 1, h => by
    have h1 := nm_sum (f := f) (g := g) (n := n) fun k hk => h k (by omega)
    have h2 := h n (by omega)
    rw [sumR, sumR]
    unfold nm at *
    rw [Int.add_emod, h1, h2, ← Int.add_emod]
theorem nm_idem (x : Int) : nm (nm x) = nm x := by unfold nm; omega
theorem nm_mul_congr {a b c d : Int} (h1 : nm a = nm b) (h2 : nm c = nm d) : nm (a * c) = nm (b * d) := by
  unfold nm at *
  rw [Int.mul_emod, h1, h2, ← Int.mul_emod]
theorem dotL_sum {r v : List Int} (h : r.length = v.length) : dotL r v = nm (sumR (fun k => r.getD k 0 * v.getD k 0) r.length) := by unfold dotL; rw [sum_zip r v h]
/-! ### Tableaus with the same weights -/
def bt (x : TabD) (k : Nat) : Int := x.2.getD k 0
theorem at2_row {x : TabD} {i : Nat} (h : i < x.1.length) (k : Nat) : x.1[i].getD k 0 = at2 x.1 i k := by
  unfold at2; rw [List.getElem?_eq_getElem h, Option.getD_some, List.getD_eq_getElem?_getD]
theorem getD_i {xs : List Int} {i : Nat} (h : i < xs.length) : xs.getD i 0 = xs[i] := by rw [List.getD_eq_getElem?_getD, List.getElem?_eq_getElem h]; rfl
theorem appL_at {x : TabD} (hx : Tab x) {v : List Int} (hv : v.length = x.2.length) {i : Nat} (hi : i < x.2.length) : (appL x v).getD i 0 = nm (sumR (fun k => at2 x.1 i k * v.getD k 0) x.2.length) := by
  have hsq := hx.sq
  have h1 : i < x.1.length := by omega
  have hrow := hx.row _ (List.getElem_mem h1)
  rw [getD_i (by rw [appL_length]; exact h1)]
  unfold appL
  rw [List.getElem_map, dotL_sum (by omega), hrow.1]
  congr 1
  exact sumR_congr fun k _ => by rw [at2_row h1]
/-- The stages of y are some of x's, r says which; V are the lists of numbers that matter. -/
structure Quo (x y : TabD) (r : Nat → Nat) (V : (Nat → Int) → Prop) : Prop where
  tx : Tab x
  ty : Tab y
  lt : ∀ j, j < y.2.length → r j < x.2.length
  row : ∀ v, V v → ∀ j, j < y.2.length → nm (sumR (fun k => at2 x.1 (r j) k * v k) x.2.length) = nm (sumR (fun l => at2 y.1 j l * v (r l)) y.2.length)
  last : ∀ v, V v → nm (sumR (fun k => bt x k * v k) x.2.length) = nm (sumR (fun l => bt y l * v (r l)) y.2.length)
  one : V fun k => if k < x.2.length then 1 else 0
  mul : ∀ u v, V u → V v → V fun k => nm (u k * v k)
  app : ∀ v, V v → V fun i => if i < x.2.length then nm (sumR (fun k => at2 x.1 i k * v k) x.2.length) else 0
  ext : ∀ u v, V u → (∀ k, k < x.2.length → u k = v k) → V v
section
variable {x y : TabD} {r : Nat → Nat} {V : (Nat → Int) → Prop}
/-- A list over the stages of y is one over those of x, read at r. -/
def Same (x y : TabD) (r : Nat → Nat) (V : (Nat → Int) → Prop) (v w : List Int) : Prop := v.length = x.2.length ∧ w.length = y.2.length ∧ V (fun k => v.getD k 0) ∧ ∀ j, j < y.2.length → w.getD j 0 = v.getD (r j) 0
theorem mulsL_at {u v : List Int} {i : Nat} (h1 : i < u.length) (h2 : i < v.length) : (mulsL u v).getD i 0 = nm (u.getD i 0 * v.getD i 0) := by
  rw [getD_i (by rw [mulsL_length]; omega), getD_i h1, getD_i h2]; simp [mulsL]
theorem Quo.same_one (h : Quo x y r V) : Same x y r V (List.replicate x.2.length 1) (List.replicate y.2.length 1) := by
  have hg : ∀ n k, (List.replicate n (1 : Int)).getD k 0 = if k < n then 1 else 0 := fun n k => by
    rw [List.getD_eq_getElem?_getD, List.getElem?_replicate]; split <;> rfl
  refine ⟨by simp, by simp, h.ext _ _ h.one fun k _ => (hg _ k).symm, fun j hj => ?_⟩
  rw [hg, hg, if_pos hj, if_pos (h.lt j hj)]
theorem Quo.same_app (h : Quo x y r V) {v w : List Int} (hs : Same x y r V v w) : Same x y r V (appL x v) (appL y w) := by
  have hx := h.tx
  have hy := h.ty
  have h1 := hx.sq
  have h2 := hy.sq
  refine ⟨by rw [appL_length]; omega, by rw [appL_length]; omega, h.ext _ _ (h.app _ hs.2.2.1) fun k hk => ?_, fun j hj => ?_⟩
  · rw [if_pos hk, appL_at hx hs.1 hk]
  · rw [appL_at hy hs.2.1 hj, appL_at hx hs.1 (h.lt j hj), h.row _ hs.2.2.1 j hj]
    congr 1
    exact sumR_congr fun l hl => by rw [hs.2.2.2 l hl]
theorem Quo.same_mul (h : Quo x y r V) {v w v' w' : List Int} (hs : Same x y r V v w) (hs' : Same x y r V v' w') : Same x y r V (mulsL v v') (mulsL w w') := by
  obtain ⟨a1, a2, a3, a4⟩ := hs
  obtain ⟨b1, b2, b3, b4⟩ := hs'
  refine ⟨by rw [mulsL_length]; omega, by rw [mulsL_length]; omega, h.ext _ _ (h.mul _ _ a3 b3) fun k hk => ?_, fun j hj => ?_⟩
  · rw [mulsL_at (by omega) (by omega)]
  · have := h.lt j hj
    rw [mulsL_at (by omega) (by omega), mulsL_at (by omega) (by omega), a4 j hj, b4 j hj]
theorem Quo.same_prod (h : Quo x y r V) {g g' : List Int → List Int} (hg : ∀ b, Same x y r V (g b) (g' b)) : ∀ (bs : List (List Int)) {v w : List Int}, Same x y r V v w → Same x y r V (prodGo x g v bs) (prodGo y g' w bs)
  | [], _, _, hs => hs
  | b :: bs, _, _, hs => h.same_prod hg bs (h.same_mul hs (h.same_app (hg b)))
theorem Quo.stW (h : Quo x y r V) : ∀ f t, Same x y r V (Go.Rk.stW x f t) (Go.Rk.stW y f t)
  | 0, _ => h.same_one
  | f + 1, t => h.same_prod (fun b => Quo.stW h f b) (branchesL t) h.same_one
theorem Quo.weight (h : Quo x y r V) (t : List Int) : weightL x t = weightL y t := by
  have hs := h.stW 8 t
  unfold weightL
  rw [dotL_sum (by rw [hs.1]), dotL_sum (by rw [hs.2.1])]
  have := h.last _ hs.2.2.1
  unfold bt at this
  rw [this]
  congr 1
  exact sumR_congr fun l hl => by rw [hs.2.2.2 l hl]
end
/-! ### Some of the stages, in an order -/
theorem permL_at {x : TabD} {o : List Int} {j l : Nat} (hj : j < o.length) (hl : l < o.length) : at2 (permL x o).1 j l = at2 x.1 (o.getD j 0).toNat (o.getD l 0).toNat := by
  have h1 : j < (permL x o).1.length := by rw [permL_len1]; exact hj
  have h2 : (permL x o).1[j] = permRow x o o[j] := by simp [permL]
  rw [at2_eq h1 (by rw [h2, permRow_length]; exact hl)]
  simp only [h2]
  rw [permRow_get _ hl, getD_i hj, getD_i hl]
theorem permL_bt {x : TabD} {o : List Int} {l : Nat} (hl : l < o.length) : bt (permL x o) l = bt x (o.getD l 0).toNat := by
  unfold bt
  rw [getD_i (by rw [permL_len2]; exact hl), getD_i hl]
  simp only [permL, List.getElem_map, List.getD_eq_getElem?_getD]
def natO (o : List Int) : List Nat := o.map Int.toNat
theorem natO_getD (o : List Int) (l : Nat) : (natO o).getD l 0 = (o.getD l 0).toNat := by
  unfold natO
  rw [List.getD_eq_getElem?_getD, List.getElem?_map, List.getD_eq_getElem?_getD]
  cases o[l]? <;> rfl
theorem natO_mem {n : Nat} {o : List Int} (ho : OrdOk n o) {k : Nat} : k ∈ natO o ↔ (k : Int) ∈ o := by
  unfold natO
  rw [List.mem_map]
  constructor
  · rintro ⟨i, hi, rfl⟩
    have := ho i hi
    rw [Int.toNat_of_nonneg this.1]; exact hi
  · intro h; exact ⟨_, h, by omega⟩
theorem natO_nodup {n : Nat} {o : List Int} (ho : OrdOk n o) (hn : o.Nodup) : (natO o).Nodup := by
  unfold natO
  rw [List.nodup_iff_pairwise_ne, List.pairwise_map] at *
  refine List.Pairwise.imp_of_mem (fun {a b} ha hb hne => ?_) hn
  have h1 := ho a ha
  have h2 := ho b hb
  omega
/-- Sums over the stages are sums over those of a list that has all that count. -/
theorem sum_order {n : Nat} {o : List Int} (ho : OrdOk n o) (hn : o.Nodup) {f : Nat → Int} (h : ∀ k, k < n → (k : Int) ∉ o → f k = 0) : sumR f n = sumR (fun l => f (o.getD l 0).toNat) o.length := by
  rw [sumR_list (natO_nodup ho hn) (fun i hi => ?_) (fun k hk hk2 => h k hk fun e => hk2 ((natO_mem ho).2 e)), sum_getD]
  · unfold natO; rw [List.length_map]
    exact sumR_congr fun l _ => by rw [← natO_getD]; rfl
  · have := ho _ ((natO_mem ho).1 hi)
    omega
theorem quo_perm {x : TabD} (hx : Tab x) {o : List Int} (ho : OrdOk x.2.length o) (hn : o.Nodup) (h0 : o ≠ []) (h8 : o.length ≤ 8)
    (hA : ∀ i k : Nat, (i : Int) ∈ o → k < x.2.length → (k : Int) ∉ o → at2 x.1 i k = 0) (hB : ∀ k : Nat, k < x.2.length → (k : Int) ∉ o → bt x k = 0) :
    Quo x (permL x o) (fun l => (o.getD l 0).toNat) fun _ => True := by
  have hlen := permL_len2 x o
  refine ⟨hx, permL_tab hx ho h0 h8, fun j hj => ?_, fun v _ j hj => ?_, fun v _ => ?_, trivial, fun _ _ _ _ => trivial, fun _ _ => trivial, fun _ _ _ _ => trivial⟩
  · rw [hlen] at hj
    rw [getD_i hj]
    have := ho.get hj
    omega
  · rw [hlen] at hj ⊢
    have hm : ((o.getD j 0).toNat : Int) ∈ o := by
      rw [getD_i hj, Int.toNat_of_nonneg (ho.get hj).1]; exact List.getElem_mem _
    rw [sum_order ho hn fun k hk hk2 => by rw [hA _ k hm hk hk2, Int.zero_mul]]
    congr 1
    exact sumR_congr fun l hl => by rw [permL_at hj hl]
  · rw [hlen, sum_order ho hn fun k hk hk2 => by rw [hB k hk hk2, Int.zero_mul]]
    congr 1
    exact sumR_congr fun l hl => by rw [permL_bt hl]
end Go.Rk
/- Plain facts: dropping, merging, permuting and reducing keep all weights. -/
namespace Go.Rk
open Go.Fw Go.Proofs
/-! ### The stages that are used -/
theorem itP_grow {x : TabD} {n : Nat} : ∀ (t : Nat) {u : List Bool}, u.length = n → passL x (itP x u t) = itP x u t ∨ t + cntB n u ≤ cntB n (itP x u t)
  | 0, _, _ => Or.inr (by rw [Nat.zero_add]; exact Nat.le_refl _)
  | t + 1, u, hl => by
    by_cases h : passL x u = u
    · left; rw [itP_fix h]; exact h
    · have h1 := cntB_lt hl (passL_le x u) h
      rw [itP]
      rcases itP_grow t (u := passL x u) (by rw [passL_length, hl]) with h2 | h2
      · exact Or.inl h2
      · exact Or.inr (by omega)
theorem used_fix (x : TabD) : passL x (usedL x) = usedL x := by
  have hl : (List.replicate x.2.length false).length = x.2.length := List.length_replicate
  rcases itP_grow (x := x) (n := x.2.length) (x.2.length + 1) hl with h | h
  · exact h
  · have := cntB_le x.2.length (itP x (List.replicate x.2.length false) (x.2.length + 1))
    omega
theorem Le.antisymm {u v : List Bool} (h : Le u v) (h' : Le v u) : u = v := by
  apply List.ext_getElem h.1
  intro j h1 h2
  have a := h.2 j
  have b := h'.2 j
  rw [List.getElem?_eq_getElem h1, List.getElem?_eq_getElem h2] at a b
  simp only [Option.getD_some] at a b
  cases hu : u[j] <;> cases hv : v[j] <;> simp_all
theorem passGo_fix {x : TabD} : ∀ (f k : Nat) {u : List Bool}, k + f ≤ u.length → passGo x f k u = u → ∀ j, k ≤ j → j < k + f → hitK x u j = u[j]?.getD false
  | 0, k, u, _, _, j, h1, h2 => by omega
  | f + 1, k, u, hl, h, j, h1, h2 => by
    have hset : Le u (u.set k (hitK x u k)) := le_set fun h => by unfold hitK; rw [h]; rfl
    have hrest := passGo_le x f (k + 1) (u.set k (hitK x u k))
    rw [passGo] at h
    rw [h] at hrest
    have e := hset.antisymm hrest
    have hk : k < u.length := by omega
    have ek : hitK x u k = u[k]?.getD false := by
      have := congrArg (fun l => l[k]?.getD false) e
      simp only [List.getElem?_set_self hk, Option.getD_some] at this
      exact this.symm
    by_cases hj : j = k
    · subst hj; exact ek
    · refine passGo_fix f (k + 1) (by omega) ?_ j (by omega) (by omega)
      rw [← e] at h
      exact h
theorem used_hit {x : TabD} {k : Nat} (hk : k < x.2.length) : hitK x (usedL x) k = (usedL x)[k]?.getD false :=
  passGo_fix (usedL x).length 0 (by omega) (used_fix x) k (Nat.zero_le _) (by rw [usedL_length]; omega)
theorem mem_usedO {u : List Bool} {k : Nat} : (k : Int) ∈ usedO u ↔ k < u.length ∧ u[k]?.getD false = true := by
  unfold usedO
  rw [List.mem_map]
  constructor
  · rintro ⟨i, hi, he⟩
    have h1 := List.mem_filter.1 hi
    have : i = k := by omega
    subst this
    exact ⟨List.mem_range.1 h1.1, h1.2⟩
  · rintro ⟨h1, h2⟩
    exact ⟨k, List.mem_filter.2 ⟨List.mem_range.2 h1, h2⟩, rfl⟩
theorem nodup_incr {o : List Int} (h : o.Pairwise (· < ·)) : o.Nodup := by
  rw [List.nodup_iff_pairwise_ne]; exact List.Pairwise.imp (fun h => by omega) h
theorem usedO_incr (u : List Bool) : (usedO u).Pairwise (· < ·) := by
  unfold usedO
  rw [List.pairwise_map]
  exact List.Pairwise.filter _ (List.Pairwise.imp (fun h => by omega) List.pairwise_lt_range)
theorem hit_last {x : TabD} {u : List Bool} {k : Nat} (h : hitK x u k = false) : bt x k = 0 := by
  unfold hitK at h
  rw [Bool.or_eq_false_iff, Bool.or_eq_false_iff] at h
  have := of_decide_eq_false h.2.1
  unfold bt
  rw [List.getD_eq_getElem?_getD]
  exact Decidable.not_not.1 this
theorem hit_row {x : TabD} {u : List Bool} {k i : Nat} (hi : i < x.2.length) (hu : u[i]?.getD false = true) (h : hitK x u k = false) : at2 x.1 i k = 0 := by
  unfold hitK at h
  rw [Bool.or_eq_false_iff, Bool.or_eq_false_iff] at h
  have h2 := List.any_eq_false.1 h.2.2 i (List.mem_range.2 hi)
  rw [hu, Bool.true_and, decide_eq_true_eq] at h2
  exact Decidable.not_not.1 h2
theorem used_ok (x : TabD) : OrdOk x.2.length (usedO (usedL x)) := by
  have := usedO_ok (u := usedL x)
  rwa [usedL_length] at this
theorem not_used {x : TabD} {k : Nat} (hk : k < x.2.length) (h : (k : Int) ∉ usedO (usedL x)) : hitK x (usedL x) k = false := by
  rw [used_hit hk]
  cases e : (usedL x)[k]?.getD false with
  | false => rfl
  | true => exact absurd (mem_usedO.2 ⟨by rw [usedL_length]; exact hk, e⟩) h
/-- Dropping stages that are not used. -/
theorem quo_drop {x : TabD} (hx : Tab x) (h0 : usedO (usedL x) ≠ []) : Quo x (dropL x) (fun l => ((usedO (usedL x)).getD l 0).toNat) fun _ => True := by
  have hl := usedO_len (usedL x)
  rw [usedL_length] at hl
  have h8 := hx.le8
  have e : dropL x = permL x (usedO (usedL x)) := by unfold dropL; rw [if_neg h0]
  rw [e]
  refine quo_perm hx (used_ok x) (nodup_incr (usedO_incr _)) h0 (by omega) (fun i k hi hk hk2 => ?_) fun k hk hk2 => hit_last (not_used hk hk2)
  have h1 := mem_usedO.1 hi
  rw [usedL_length] at h1
  exact hit_row h1.1 h1.2 (not_used hk hk2)
theorem weight_zero {x : TabD} (hx : Tab x) (h : ∀ k, k < x.2.length → bt x k = 0) (t : List Int) : weightL x t = 0 := by
  unfold weightL
  rw [dotL_sum (stW_ok hx.sq 8 t).1.symm, sumR_zero fun k hk => by have := h k hk; unfold bt at this; rw [this, Int.zero_mul]]
  exact show nm 0 = 0 from by kernel_rfl
theorem neutral_tab : Tab neutralTableau := by
  have : isTab neutralTableau = true := by kernel_rfl
  exact isTab_iff this
theorem neutral_weight (t : List Int) : weightL neutralTableau t = 0 := weight_zero neutral_tab (fun k hk => by
  have : k = 0 := by have : neutralTableau.2.length = 1 := rfl; omega
  subst this; rfl) t
theorem drop_weight {x : TabD} (hx : Tab x) (t : List Int) : weightL (dropL x) t = weightL x t := by
  by_cases h0 : usedO (usedL x) = []
  · have e : dropL x = neutralTableau := by unfold dropL; rw [if_pos h0]
    rw [e, neutral_weight, weight_zero hx fun k hk => hit_last (not_used hk (by rw [h0]; simp))]
  · exact ((quo_drop hx h0).weight t).symm
/-! ### Alike stages -/
theorem itN_grow {xss : List (List Int)} {n : Nat} : ∀ (t : Nat) {c : List Int}, Cls n c → refineL xss (itN xss c t) = itN xss c t ∨ t + roots n c ≤ roots n (itN xss c t)
  | 0, _, _ => Or.inr (by rw [Nat.zero_add]; exact Nat.le_refl _)
  | t + 1, c, hc => by
    by_cases h : refineL xss c = c
    · left; rw [itN_fix h]; exact h
    · have h1 := roots_lt hc h
      rw [itN]
      rcases itN_grow t (c := refineL xss c) (cls_refine xss hc.1) with h2 | h2
      · exact Or.inl h2
      · exact Or.inr (by omega)
theorem alike_fix {x : TabD} (hp : 1 ≤ x.2.length) : refineL x.1 (alikeL x) = alikeL x := by
  rcases itN_grow (xss := x.1) (n := x.2.length) x.2.length (cls_zero x.2.length) with h | h
  · exact h
  · have h1 := roots_zero hp
    have h2 := roots_le x.2.length (itN x.1 (List.replicate x.2.length 0) x.2.length)
    omega
theorem alike_cls {x : TabD} (hp : 1 ≤ x.2.length) : Cls x.2.length (alikeL x) := by
  have := (alikeL_idem hp).1
  rwa [alikeL_length] at this
/-- The class of a stage. -/
def clN (cls : List Int) (k : Nat) : Nat := (cls.getD k 0).toNat
theorem clN_eq {n : Nat} {cls : List Int} (h : Cls n cls) {k : Nat} (hk : k < n) : cls.getD k 0 = ((clN cls k : Nat) : Int) ∧ clN cls k ≤ k := by
  have h1 := h.2 k hk
  rw [← List.getD_eq_getElem?_getD] at h1
  unfold clN
  omega
theorem clN_idem {cls : List Int} (h : Idem cls) {k : Nat} (hk : k < cls.length) : cls.getD (clN cls k) 0 = cls.getD k 0 := by
  have h1 := h.2 k hk
  have h2 := (clN_eq h.1 hk).1
  unfold isRep at h1
  have h3 := of_decide_eq_true h1
  rw [← List.getD_eq_getElem?_getD, ← List.getD_eq_getElem?_getD] at h3
  show cls.getD (cls.getD k 0).toNat 0 = _
  rw [h3, h2]; omega
theorem alike_rows {x : TabD} (hx : Tab x) {i : Nat} (hi : i < x.2.length) : sumsL (x.1[clN (alikeL x) i]?.getD []) (alikeL x) = sumsL (x.1[i]?.getD []) (alikeL x) := by
  have hp := hx.pos
  have hf := alike_fix hp
  have hl := alikeL_length x
  have h1 : (refineL x.1 (alikeL x))[i]?.getD 0 = ((leastC x.1 (alikeL x) i : Nat) : Int) := refineL_get? (by omega)
  rw [hf, ← List.getD_eq_getElem?_getD] at h1
  have h2 : clN (alikeL x) i = leastC x.1 (alikeL x) i := by unfold clN; omega
  have hm := (leastC_spec x.1 (alikeL x) i).2.1
  unfold matchC at hm
  rw [Bool.and_eq_true] at hm
  rw [h2]
  exact of_decide_eq_true hm.2
theorem sumGo_sum (i : Int) : ∀ (row cls : List Int) (acc : Int), row.length = cls.length → nm (sumGo i acc row cls) = nm (acc + sumR (fun k => if cls.getD k 0 = i then row.getD k 0 else 0) row.length)
  | [], [], acc, _ => by simp [sumGo, sumR]
  | [], _ :: _, _, h => by simp at h
  | _ :: _, [], _, h => by simp at h
  | a :: r, c :: cs, acc, h => by
    rw [sumGo, sumGo_sum i r cs _ (by simpa using h), List.length_cons, Nat.add_comm r.length 1, sumR_split]
    have e : sumR (fun k => if (c :: cs).getD (1 + k) 0 = i then (a :: r).getD (1 + k) 0 else 0) r.length = sumR (fun k => if cs.getD k 0 = i then r.getD k 0 else 0) r.length := sumR_congr fun k _ => by rw [Nat.add_comm 1 k]; rfl
    rw [e]
    generalize sumR (fun k => if cs.getD k 0 = i then r.getD k 0 else 0) r.length = q
    show _ = nm (acc + ((0 + if c = i then a else 0) + q))
    by_cases hc : c = i
    · rw [if_pos hc, if_pos hc]; unfold nm; omega
    · rw [if_neg hc, if_neg hc]; unfold nm; omega
/-- The sum of a class. -/
theorem sumsL_class {row cls : List Int} (hl : row.length = cls.length) (hc : Cls cls.length cls) {i : Nat} (hi : i < cls.length) : nm ((sumsL row cls).getD i 0) = nm (sumR (fun k => if clN cls k = i then row.getD k 0 else 0) row.length) := by
  rw [List.getD_eq_getElem?_getD, sumsL_get hi hc, sumGo_sum (i : Int) row cls 0 hl, Int.zero_add]
  congr 1
  refine sumR_congr fun k hk => ?_
  have h1 := (clN_eq hc (show k < cls.length by omega)).1
  by_cases e : clN cls k = i
  · rw [if_pos e, if_pos (by omega)]
  · rw [if_neg e, if_neg (by omega)]
theorem reps_bd {cls : List Int} {m : Nat} (hm : m < (repsL cls).length) : ∃ q : Nat, (repsL cls).getD m 0 = (q : Int) ∧ q < cls.length := by
  have := (repsL_ok cls).get hm
  exact ⟨((repsL cls)[m]).toNat, by rw [getD_i hm]; omega, by omega⟩
/-- Sums over the stages, class by class. -/
theorem fiber {cls : List Int} (h : Idem cls) (f v S : Nat → Int) (hv : ∀ i j, i < cls.length → j < cls.length → cls.getD i 0 = cls.getD j 0 → v i = v j)
    (hS : ∀ m, m < (repsL cls).length → nm (S m) = nm (sumR (fun k => if clN cls k = ((repsL cls).getD m 0).toNat then f k else 0) cls.length)) :
    nm (sumR (fun k => f k * v k) cls.length) = nm (sumR (fun m => S m * v ((repsL cls).getD m 0).toNat) (repsL cls).length) := by
  have e1 : nm (sumR (fun m => S m * v ((repsL cls).getD m 0).toNat) (repsL cls).length) = nm (sumR (fun m => sumR (fun k => if clN cls k = ((repsL cls).getD m 0).toNat then f k else 0) cls.length * v ((repsL cls).getD m 0).toNat) (repsL cls).length) :=
    nm_sum fun m hm => nm_mul_congr (hS m hm) rfl
  rw [e1]
  congr 1
  have e2 : sumR (fun m => sumR (fun k => if clN cls k = ((repsL cls).getD m 0).toNat then f k else 0) cls.length * v ((repsL cls).getD m 0).toNat) (repsL cls).length =
      sumR (fun m => sumR (fun k => (if clN cls k = ((repsL cls).getD m 0).toNat then f k else 0) * v ((repsL cls).getD m 0).toNat) cls.length) (repsL cls).length :=
    sumR_congr fun m _ => (sumR_mul _ _ _).symm
  rw [e2, ← sumR_comm]
  refine sumR_congr fun k hk => ?_
  have hk1 := clN_eq h.1 hk
  have hmem : cls.getD k 0 ∈ repsL cls := (mem_reps h _).2 (by rw [getD_i hk]; exact List.getElem_mem _)
  obtain ⟨m0, hm0, he0⟩ := List.getElem_of_mem hmem
  have h0 : ((repsL cls).getD m0 0).toNat = clN cls k := by rw [getD_i hm0, he0]; rfl
  have hinj : ∀ m, m < (repsL cls).length → ((repsL cls).getD m 0).toNat = clN cls k → m = m0 := fun m hm e => by
    have b1 := (repsL_ok cls).get hm
    have b2 := (repsL_ok cls).get hm0
    have e' : (repsL cls)[m] = (repsL cls)[m0] := by
      rw [getD_i hm] at e; rw [getD_i hm0] at h0; omega
    have hp := List.pairwise_iff_getElem.1 (repsTo_incr cls cls.length)
    rcases Nat.lt_trichotomy m m0 with hlt | heq | hgt
    · have := hp m m0 hm hm0 hlt
      unfold repsL at e'; omega
    · exact heq
    · have := hp m0 m hm0 hm hgt
      unfold repsL at e'; omega
  have e3 : sumR (fun m => (if clN cls k = ((repsL cls).getD m 0).toNat then f k else 0) * v ((repsL cls).getD m 0).toNat) (repsL cls).length = sumR (fun m => if m = m0 then f k * v (clN cls k) else 0) (repsL cls).length :=
    sumR_congr fun m hm => by
      by_cases e : m = m0
      · subst e; rw [if_pos rfl, h0, if_pos rfl]
      · rw [if_neg e, if_neg (fun e2 => e (hinj m hm e2.symm)), Int.zero_mul]
  rw [e3, sumR_one (f := fun _ => f k * v (clN cls k)) hm0, hv k (clN cls k) hk (by omega) (clN_idem h hk).symm]
def Cst (x : TabD) (v : Nat → Int) : Prop := ∀ i j, i < x.2.length → j < x.2.length → (alikeL x).getD i 0 = (alikeL x).getD j 0 → v i = v j
theorem row_getD {x : TabD} (hx : Tab x) {i : Nat} (hi : i < x.2.length) : (x.1[i]?.getD []).length = x.2.length ∧ ∀ k, (x.1[i]?.getD []).getD k 0 = at2 x.1 i k := by
  have hsq := hx.sq
  have h1 : i < x.1.length := by omega
  rw [List.getElem?_eq_getElem h1, Option.getD_some]
  exact ⟨(hx.row _ (List.getElem_mem h1)).1, fun k => at2_row h1 k⟩
/-- Merging alike stages. -/
theorem quo_merge {x : TabD} (hx : Tab x) : Quo x (mergeL x) (fun l => ((repsL (alikeL x)).getD l 0).toNat) (Cst x) := by
  have hp := hx.pos
  have hid := alikeL_idem hp
  have hcl := alike_cls hp
  have hl := alikeL_length x
  have hrows := fun i (hi : i < x.2.length) => alike_rows hx hi
  have hreps := repsL_ok (alikeL x)
  have hlen : (mergeL x).2.length = (repsL (alikeL x)).length := mergeL_len x
  have hrb := fun m (hm : m < (repsL (alikeL x)).length) => reps_bd hm
  have hst := sumsT_tab hx hl
  have hcl' : Cls (alikeL x).length (alikeL x) := by rw [hl]; exact hcl
  -- the sums of a row
  have hS : ∀ i, i < x.2.length → ∀ m, m < (repsL (alikeL x)).length → nm ((sumsL (x.1[i]?.getD []) (alikeL x)).getD ((repsL (alikeL x)).getD m 0).toNat 0) = nm (sumR (fun k => if clN (alikeL x) k = ((repsL (alikeL x)).getD m 0).toNat then at2 x.1 i k else 0) (alikeL x).length) := fun i hi m hm => by
    obtain ⟨q, hq, hq2⟩ := hrb m hm
    have hr := row_getD hx hi
    rw [sumsL_class (by rw [hr.1, hl]) hcl' (by rw [hq]; omega), hr.1, hl]
    exact congrArg nm (sumR_congr fun k _ => by rw [hr.2 k])
  have hmA : ∀ j l, j < (repsL (alikeL x)).length → l < (repsL (alikeL x)).length → at2 (mergeL x).1 j l = (sumsL (x.1[((repsL (alikeL x)).getD j 0).toNat]?.getD []) (alikeL x)).getD ((repsL (alikeL x)).getD l 0).toNat 0 := fun j l hj hl2 => by
    unfold mergeL
    rw [permL_at hj hl2]
    obtain ⟨q, hq, hq2⟩ := hrb j hj
    rw [hq, Int.toNat_natCast]
    have hsq := hx.sq
    have h1 : q < x.1.length := by omega
    unfold at2 sumsT
    rw [List.getElem?_map, List.getElem?_eq_getElem h1, List.getD_eq_getElem?_getD]
    rfl
  refine ⟨hx, mergeL_tab hx, fun j hj => ?_, fun v hv j hj => ?_, fun v hv => ?_, fun i j hi hj _ => by dsimp only; rw [if_pos hi, if_pos hj], fun u v hu hv i j hi hj e => by dsimp only; rw [hu i j hi hj e, hv i j hi hj e], fun v hv i j hi hj e => ?_, fun u v hu he i j hi hj e => by rw [← he i hi, ← he j hj]; exact hu i j hi hj e⟩
  · rw [hlen] at hj
    obtain ⟨q, hq, hq2⟩ := hrb j hj
    rw [hq]; omega
  · rw [hlen] at hj ⊢
    obtain ⟨q, hq, hq2⟩ := hrb j hj
    have hqn : ((repsL (alikeL x)).getD j 0).toNat < x.2.length := by rw [hq]; omega
    have h1 := fiber hid (fun k => at2 x.1 ((repsL (alikeL x)).getD j 0).toNat k) v (fun m => at2 (mergeL x).1 j m) (fun a b ha hb e => hv a b (by omega) (by omega) e) fun m hm => by
      rw [hmA j m hj hm]
      exact hS _ hqn m hm
    rw [hl] at h1
    exact h1
  · rw [hlen]
    have h1 := fiber hid (fun k => bt x k) v (fun m => bt (mergeL x) m) (fun a b ha hb e => hv a b (by omega) (by omega) e) fun m hm => by
      obtain ⟨q, hq, hq2⟩ := hrb m hm
      have e : bt (mergeL x) m = (sumsL x.2 (alikeL x)).getD q 0 := by
        unfold mergeL
        rw [permL_bt hm, hq, Int.toNat_natCast]
        rfl
      rw [e, hq, Int.toNat_natCast, sumsL_class hl.symm hcl' hq2, hl]
      rfl
    rw [hl] at h1
    exact h1
  · dsimp only
    rw [if_pos hi, if_pos hj]
    have key : ∀ i, i < x.2.length → nm (sumR (fun k => at2 x.1 i k * v k) x.2.length) = nm (sumR (fun m => (sumsL (x.1[i]?.getD []) (alikeL x)).getD ((repsL (alikeL x)).getD m 0).toNat 0 * v ((repsL (alikeL x)).getD m 0).toNat) (repsL (alikeL x)).length) := fun i hi => by
      have h1 := fiber hid (fun k => at2 x.1 i k) v (fun m => (sumsL (x.1[i]?.getD []) (alikeL x)).getD ((repsL (alikeL x)).getD m 0).toNat 0) (fun a b ha hb e => hv a b (by omega) (by omega) e) (hS i hi)
      rw [hl] at h1
      exact h1
    have hrow : sumsL (x.1[i]?.getD []) (alikeL x) = sumsL (x.1[j]?.getD []) (alikeL x) := by
      have e' : clN (alikeL x) i = clN (alikeL x) j := by unfold clN; rw [e]
      rw [← hrows i hi, ← hrows j hj, e']
    rw [key i hi, key j hj, hrow]
theorem merge_weight {x : TabD} (hx : Tab x) (t : List Int) : weightL (mergeL x) t = weightL x t := ((quo_merge hx).weight t).symm
/-- Alike stages have the same stage weights. -/
theorem alike_stages {x : TabD} (hx : Tab x) (t : List Int) {i : Nat} (hi : i < x.2.length) : (stW x 8 t).getD (clN (alikeL x) i) 0 = (stW x 8 t).getD i 0 := by
  have hp := hx.pos
  have h1 := ((quo_merge hx).stW 8 t).2.2.1
  have hid := alikeL_idem hp
  have hcl := clN_eq (alike_cls hp) hi
  exact h1 _ _ (by omega) hi (clN_idem hid (by rw [alikeL_length]; exact hi))
theorem isTab_of {x : TabD} (h : Tab x) : isTab x = true := by
  unfold isTab
  rw [Bool.and_eq_true, Bool.and_eq_true, decide_eq_true_eq]
  refine ⟨⟨h.pos, h.le8, h.sq⟩, h.last, List.all_eq_true.2 fun r hr => ?_⟩
  unfold rowOk
  rw [Bool.and_eq_true, decide_eq_true_eq]
  exact h.row r hr
/-! ### Reducing -/
theorem step_weight {x : TabD} (hx : Tab x) (t : List Int) : weightL (stepR x) t = weightL x t := by
  unfold stepR; rw [merge_weight (dropL_tab hx), drop_weight hx]
theorem redN_weight {x : TabD} (hx : Tab x) (t : List Int) (f : Nat) : weightL (redN f x) t = weightL x t := by
  induction f generalizing x with
  | zero => rfl
  | succ f ih =>
    unfold redN
    split
    · rfl
    · rw [ih (stepR_tab hx), step_weight hx]
theorem reduce_weight {x : TabD} (hx : Tab x) (t : List Int) : weightL (reduceL x) t = weightL x t := redN_weight hx t 20
theorem redN_fixed {x : TabD} (hx : Tab x) : ∀ {f : Nat}, meas x < f → stepR (redN f x) = redN f x := by
  intro f
  induction f generalizing x with
  | zero => intro h; omega
  | succ f ih =>
    intro h
    unfold redN
    split
    · rename_i e; exact e
    · rename_i e
      have := stepR_meas hx e
      exact ih (stepR_tab hx) (by omega)
theorem reduce_fixed {x : TabD} (hx : Tab x) : stepR (reduceL x) = reduceL x := redN_fixed hx (by have := meas_le hx; omega)
theorem reduce_twice {x : TabD} (hx : Tab x) : reduceL (reduceL x) = reduceL x := redN_stop (reduce_fixed hx) 20
theorem reduce_tab {x : TabD} (hx : Tab x) : Tab (reduceL x) := redN_tab hx 20
theorem step_le {x : TabD} (hx : Tab x) : (stepR x).2.length ≤ x.2.length := by
  rcases stepR_cases hx with h | h | h
  · omega
  · rw [h]; exact Nat.le_refl _
  · rw [h]; have : neutralTableau.2.length = 1 := rfl; have := hx.pos; omega
theorem redN_le {x : TabD} (hx : Tab x) (f : Nat) : (redN f x).2.length ≤ x.2.length := by
  induction f generalizing x with
  | zero => exact Nat.le_refl _
  | succ f ih =>
    unfold redN
    split
    · exact Nat.le_refl _
    · have := ih (stepR_tab hx); have := step_le hx; omega
theorem reduce_le {x : TabD} (hx : Tab x) : (reduceL x).2.length ≤ x.2.length := redN_le hx 20
theorem fixed_parts {x : TabD} (hx : Tab x) (h : stepR x = x) : dropL x = x ∧ mergeL x = x := by
  by_cases h0 : usedO (usedL x) = []
  · have e : dropL x = neutralTableau := by unfold dropL; rw [if_pos h0]
    have e2 : x = neutralTableau := by
      rw [← h]; unfold stepR; rw [e]; exact merge_neutral
    rw [e, e2]
    exact ⟨rfl, merge_neutral⟩
  · have e : dropL x = permL x (usedO (usedL x)) := by unfold dropL; rw [if_neg h0]
    have hl := usedO_len (usedL x)
    rw [usedL_length] at hl
    have h1 := congrArg (fun y => y.2.length) h
    unfold stepR at h1
    rw [mergeL_len] at h1
    have h2 := repsL_length (alikeL (dropL x))
    rw [alikeL_length, e, permL_len2] at h2
    rw [e] at h1
    have hd := dropL_same hx (by omega)
    refine ⟨hd, ?_⟩
    unfold stepR at h
    rwa [hd] at h
theorem reduced_is {x : TabD} (hx : Tab x) : isReduced (reduceL x) = (true, 0) := by
  have hr := reduce_tab hx
  obtain ⟨h1, h2⟩ := fixed_parts hr (reduce_fixed hx)
  unfold isReduced
  rw [if_pos (isTab_of hr), decide_eq_true h1, decide_eq_true h2]; rfl
/-! ### All stages in another order -/
theorem order_facts {n : Nat} {o : List Int} (h : sortL o = firstT n) : o.length = n ∧ OrdOk n o ∧ o.Nodup ∧ ∀ i : Nat, i < n → (i : Int) ∈ o := by
  obtain ⟨h1, h2⟩ := sort_ok h
  refine ⟨h1, h2, ?_, (sort_first.1 h).2⟩
  have hp : (sortL o).Perm o := List.mergeSort_perm _ _
  rw [h] at hp
  have := nodup_incr (firstT_incr n)
  rw [List.nodup_iff_pairwise_ne] at this ⊢
  exact (hp.pairwise_iff (fun h => Ne.symm h)).1 this
theorem perm_weight {x : TabD} (hx : Tab x) {o : List Int} (h : sortL o = firstT x.2.length) (t : List Int) : weightL (permL x o) t = weightL x t := by
  obtain ⟨h1, h2, h3, h4⟩ := order_facts h
  have hp := hx.pos
  have h8 := hx.le8
  exact ((quo_perm hx h2 h3 (fun e => by rw [e] at h1; simp at h1; omega) (by omega) (fun i k _ hk hk2 => absurd (h4 k hk) hk2) fun k hk hk2 => absurd (h4 k hk) hk2).weight t).symm
end Go.Rk
/- Plain facts: a list that reorders a tableau is found. -/
namespace Go.Rk
open Go.Fw Go.Proofs
theorem sumR_le {f g : Nat → Int} : ∀ {n : Nat}, (∀ k, k < n → f k ≤ g k) → sumR f n ≤ sumR g n
  | 0, _ => Int.le_refl _
  | n + 1, h => by
    have h1 := sumR_le (f := f) (g := g) (n := n) fun k hk => h k (by omega)
    have h2 := h n (by omega)
    rw [sumR, sumR]; omega
theorem sumR_const (c : Int) : ∀ n : Nat, sumR (fun _ => c) n = n * c
  | 0 => by simp [sumR]
  | n + 1 => by rw [sumR, sumR_const c n, Int.natCast_add, Int.add_mul]; simp
/-- Different stages, as many as there are: all of them. -/
theorem all_stages {n : Nat} {o : List Int} (ho : OrdOk n o) (hn : o.Nodup) (hl : o.length = n) : ∀ i : Nat, i < n → (i : Int) ∈ o := fun i hi => Classical.byContradiction fun hno => by
  have h1 := sum_order ho hn (f := fun k => if (k : Int) ∈ o then 1 else 0) fun k _ hk => if_neg hk
  have h2 : sumR (fun l => if (((o.getD l 0).toNat : Nat) : Int) ∈ o then (1 : Int) else 0) o.length = sumR (fun _ => 1) o.length := sumR_congr fun l hl => by
    have hb := ho.get hl
    rw [if_pos]
    rw [getD_i hl, Int.toNat_of_nonneg hb.1]; exact List.getElem_mem _
  have h3 : sumR (fun k => if (k : Int) ∈ o then (1 : Int) else 0) n ≤ sumR (fun k => 1 + if k = i then (-1 : Int) else 0) n := sumR_le fun k hk => by
    by_cases e : k = i
    · subst e; rw [if_neg hno, if_pos rfl]; omega
    · rw [if_neg e]; split <;> omega
  have h4 : sumR (fun k => 1 + if k = i then (-1 : Int) else 0) n = n * 1 + -1 := by
    rw [sumR_add, sumR_const, sumR_one (f := fun _ => -1) hi]
  have h5 := sumR_const 1 o.length
  rw [h1, h2, h5, h4, hl] at h3
  omega
/-- The stages of a list stand as those of y. -/
structure FitTo (x y : TabD) (o : List Int) : Prop where
  ok : OrdOk x.2.length o
  nd : o.Nodup
  last : ∀ k, k < o.length → bt x (o.getD k 0).toNat = bt y k
  row : ∀ k l, k < o.length → l < o.length → at2 x.1 (o.getD k 0).toNat (o.getD l 0).toNat = at2 y.1 k l
theorem getD_snoc {o : List Int} {i : Int} {k : Nat} (h : k < o.length + 1) : (o ++ [i]).getD k 0 = if k < o.length then o.getD k 0 else i := by
  rw [List.getD_eq_getElem?_getD, List.getD_eq_getElem?_getD]
  split
  · rename_i h1; rw [List.getElem?_append_left h1]
  · rename_i h1
    rw [List.getElem?_append_right (by omega), show k - o.length = 0 from by omega]; rfl
theorem fits_iff {x y : TabD} {o : List Int} {i : Nat} : fits x y o i = true ↔ (i : Int) ∉ o ∧ bt x i = bt y o.length ∧ at2 x.1 i i = at2 y.1 o.length o.length ∧ ∀ k, k < o.length → at2 x.1 i (o.getD k 0).toNat = at2 y.1 o.length k ∧ at2 x.1 (o.getD k 0).toNat i = at2 y.1 k o.length := by
  unfold fits fit1 fit2 fitK fitA fitB bt
  simp only [Bool.and_eq_true, Bool.not_eq_true', decide_eq_false_iff_not, decide_eq_true_eq, List.all_eq_true, List.mem_range, List.getD_eq_getElem?_getD]
theorem FitTo.snoc {x y : TabD} {o : List Int} (h : FitTo x y o) {i : Nat} (hi : i < x.2.length) (hf : fits x y o i = true) : FitTo x y (o ++ [(i : Int)]) := by
  obtain ⟨h1, h2, h3, h4⟩ := fits_iff.1 hf
  refine ⟨h.ok.snoc hi, ?_, fun k hk => ?_, fun k l hk hl => ?_⟩
  · rw [List.nodup_append]
    exact ⟨h.nd, by simp, fun a ha b hb e => by
      simp only [List.mem_singleton] at hb
      subst hb e; exact h1 ha⟩
  · rw [List.length_append, List.length_singleton] at hk
    rw [getD_snoc hk]
    split
    · rename_i hk2; exact h.last k hk2
    · have : k = o.length := by omega
      subst this
      rw [Int.toNat_natCast]; exact h2
  · rw [List.length_append, List.length_singleton] at hk hl
    rw [getD_snoc hk, getD_snoc hl]
    by_cases hk2 : k < o.length
    · by_cases hl2 : l < o.length
      · rw [if_pos hk2, if_pos hl2]; exact h.row k l hk2 hl2
      · have : l = o.length := by omega
        subst this
        rw [if_pos hk2, if_neg (by omega), Int.toNat_natCast]; exact (h4 k hk2).2
    · have : k = o.length := by omega
      subst this
      by_cases hl2 : l < o.length
      · rw [if_neg (by omega), if_pos hl2, Int.toNat_natCast]; exact (h4 l hl2).1
      · have : l = o.length := by omega
        subst this
        rw [if_neg (by omega), Int.toNat_natCast]; exact h3
theorem firstSome_sound {α : Type} {g : Nat → Option α} {r : α} : ∀ (m i : Nat), firstSome g i m = some r → ∃ j, i ≤ j ∧ j < i + m ∧ g j = some r
  | 0, _, h => by cases h
  | m + 1, i, h => by
    unfold firstSome at h
    split at h
    · rename_i q hq
      simp only [Option.some.injEq] at h
      subst h
      exact ⟨i, Nat.le_refl _, by omega, hq⟩
    · obtain ⟨j, h1, h2, h3⟩ := firstSome_sound m (i + 1) h
      exact ⟨j, by omega, by omega, h3⟩
theorem firstSome_ex {α : Type} {g : Nat → Option α} : ∀ (m i j : Nat), i ≤ j → j < i + m → (g j).isSome = true → (firstSome g i m).isSome = true
  | 0, _, _, _, _, _ => by omega
  | m + 1, i, j, h1, h2, h3 => by
    unfold firstSome
    split
    · rfl
    · rename_i hq
      have : j ≠ i := fun e => by subst e; rw [hq] at h3; cases h3
      exact firstSome_ex m (i + 1) j (by omega) (by omega) h3
theorem findG_fit {x y : TabD} : ∀ {f : Nat} {o l : List Int}, FitTo x y o → findG x y f o = some l → FitTo x y l
  | 0, o, l, h, e => by simp only [findG, Option.some.injEq] at e; rw [← e]; exact h
  | f + 1, o, l, h, e => by
    unfold findG at e
    obtain ⟨j, _, h2, h3⟩ := firstSome_sound _ _ e
    split at h3
    · rename_i hf; exact findG_fit (h.snoc (by omega) hf) h3
    · cases h3
theorem FitTo.next {x y : TabD} {q : List Int} (h : FitTo x y q) {k : Nat} (hk : k < q.length) : fits x y (q.take k) (q.getD k 0).toNat = true := by
  have hb := h.ok.get hk
  have hlk : (q.take k).length = k := by rw [List.length_take]; omega
  have hg : ∀ j, j < k → (q.take k).getD j 0 = q.getD j 0 := fun j hj => by rw [List.getD_eq_getElem?_getD, List.getD_eq_getElem?_getD, List.getElem?_take, if_pos hj]
  rw [fits_iff, hlk]
  refine ⟨fun hm => ?_, h.last k hk, h.row k k hk hk, fun j hj => ?_⟩
  · rw [getD_i hk, Int.toNat_of_nonneg hb.1] at hm
    obtain ⟨j, hj, he⟩ := List.getElem_of_mem hm
    rw [List.getElem_take] at he
    rw [hlk] at hj
    have := (List.nodup_iff_pairwise_ne.1 h.nd)
    exact (List.pairwise_iff_getElem.1 this) j k (by omega) hk hj he
  · rw [hg j hj]
    exact ⟨h.row k j hk (by omega), h.row j k (by omega) hk⟩
theorem findG_ex {x y : TabD} {q : List Int} (hq : FitTo x y q) : ∀ (f k : Nat), k + f = q.length → (findG x y f (q.take k)).isSome = true
  | 0, _, _ => rfl
  | f + 1, k, h => by
    have hk : k < q.length := by omega
    have hb := hq.ok.get hk
    unfold findG
    refine firstSome_ex _ _ (q.getD k 0).toNat (Nat.zero_le _) (by rw [getD_i hk]; omega) ?_
    rw [if_pos (hq.next hk)]
    have e : q.take k ++ [(((q.getD k 0).toNat : Nat) : Int)] = q.take (k + 1) := by
      rw [List.take_succ_eq_append_getElem hk, getD_i hk, Int.toNat_of_nonneg hb.1]
    rw [e]
    exact findG_ex hq f (k + 1) (by omega)
theorem fit_perm {x : TabD} {o : List Int} (ho : OrdOk x.2.length o) (hn : o.Nodup) : FitTo x (permL x o) o :=
  ⟨ho, hn, fun k hk => (permL_bt hk).symm, fun k l hk hl => (permL_at hk hl).symm⟩
theorem tab_ext {x y : TabD} (hx : Tab x) (hy : Tab y) (hl : x.2.length = y.2.length) (h1 : ∀ k, k < x.2.length → bt x k = bt y k) (h2 : ∀ k l, k < x.2.length → l < x.2.length → at2 x.1 k l = at2 y.1 k l) : x = y := by
  have a := hx.sq
  have b := hy.sq
  refine Prod.ext (List.ext_getElem (by omega) fun i hi hi' => ?_) (List.ext_getElem hl fun i hi hi' => ?_)
  · have r1 := hx.row _ (List.getElem_mem hi)
    have r2 := hy.row _ (List.getElem_mem hi')
    refine List.ext_getElem (by omega) fun k hk hk' => ?_
    have := h2 i k (by omega) (by omega)
    rwa [at2_eq hi hk, at2_eq hi' hk'] at this
  · have := h1 i hi
    unfold bt at this
    rwa [getD_i hi, getD_i hi'] at this
/-- A list that reorders a tableau is found. -/
theorem order_found {x : TabD} (hx : Tab x) {o : List Int} (h : sortL o = firstT x.2.length) : ∃ l, stageOrder x (permL x o) = (l, 0) ∧ sortL l = firstT x.2.length ∧ permL x l = permL x o ∧ l.length = x.2.length := by
  obtain ⟨h1, h2, h3, h4⟩ := order_facts h
  have hp := hx.pos
  have h8 := hx.le8
  have hz := permL_tab hx h2 (fun e => by rw [e] at h1; simp at h1; omega) (by omega)
  have hzl : (permL x o).2.length = x.2.length := by rw [permL_len2, h1]
  have hs := findG_ex (fit_perm h2 h3) o.length 0 (by omega)
  rw [List.take_zero, h1] at hs
  obtain ⟨l, hl⟩ := Option.isSome_iff_exists.1 hs
  have hlen := findG_len hl
  simp only [List.length_nil, Nat.zero_add] at hlen
  have hf : FitTo x (permL x o) l := findG_fit ⟨fun o ho => by simp at ho, List.nodup_nil, fun k hk => by simp at hk, fun k l hk => by simp at hk⟩ hl
  have hall := all_stages hf.ok hf.nd hlen
  have hsl : sortL l = firstT x.2.length := sort_first.2 ⟨hlen, hall⟩
  refine ⟨l, ?_, hsl, ?_, hlen⟩
  · unfold stageOrder
    rw [if_pos ⟨isTab_of hx, isTab_of hz⟩, if_pos hzl.symm, hl]
  · have hy := permL_tab hx hf.ok (fun e => by rw [e] at hlen; simp at hlen; omega) (by omega)
    refine tab_ext hy hz (by rw [permL_len2, hzl, hlen]) (fun k hk => ?_) fun k m hk hm => ?_
    · rw [permL_len2] at hk
      rw [permL_bt hk]; exact hf.last k hk
    · rw [permL_len2] at hk hm
      rw [permL_at hk hm]; exact hf.row k m hk hm
/-- A stage more, somewhere in a list of all stages before it. -/
theorem order_insert {n : Nat} {o : List Int} (h : sortL o = firstT n) {k : Nat} (hk : k ≤ o.length) : sortL (o.take k ++ [((n : Nat) : Int)] ++ o.drop k) = firstT (n + 1) := by
  obtain ⟨h1, h2⟩ := sort_first.1 h
  refine sort_first.2 ⟨?_, fun i hi => ?_⟩
  · simp only [List.length_append, List.length_take, List.length_drop, List.length_singleton]; omega
  · by_cases e : i = n
    · subst e; simp
    · have := h2 i (by omega)
      rw [← List.take_append_drop k o] at this
      rcases List.mem_append.1 this with hm | hm
      · simp [hm]
      · simp [hm]
end Go.Rk
