/- Plain facts: the cuts of a tree as lists, and the table of the cuts of all trees of maps. -/
import Derived.Test.YtncilhecdihmeaaE2
import Derived.Test.YtncilhecdihmeaaE6
import Derived.Test.YtncilhecdihmeaaH7
import Derived.Test.YtncilhecdihmeaaK3
import Derived.Test.YtncilhecdihmeaaLay2
namespace Go.Rk
open Go.Fw Go.Proofs
abbrev For := List (List Int)
abbrev Spl := For × For
def crossL (a b : List Spl) : List Spl := a.flatMap fun s => b.map fun c => (s.1 ++ c.1, s.2 ++ c.2)
def trunkF (s : Spl) : Spl := (s.1, [canonI 8 (rootL s.2)])
/-- All cuts of a tree, one after the other. -/
def splitF : Nat → List Int → List Spl
  | 0, _ => []
  | f + 1, t => ((branchesL t).foldl (fun l b => crossL l (splitF f b)) [([], [])]).map trunkF ++ [([canonI 8 t], [])]
structure SOk (n : Nat) (s : Spl) : Prop where
  c : ∀ b ∈ s.1, Lv b
  t : ∀ b ∈ s.2, Lv b
  n : s.1.flatten.length + s.2.flatten.length = n
theorem len_le_flat : ∀ (f : For), (∀ b ∈ f, 1 ≤ b.length) → f.length ≤ f.flatten.length
  | [], _ => Nat.le_refl _
  | b :: f, h => by
    have h1 := h b (by simp)
    have h2 := len_le_flat f fun c hc => h c (by simp [hc])
    simp only [List.length_cons, List.flatten_cons, List.length_append]
    omega
theorem Lv.le_flat {f : For} (h : ∀ b ∈ f, Lv b) : f.length ≤ f.flatten.length := len_le_flat f fun b hb => (h b hb).pos
theorem mem_le_flat {f : For} {b : List Int} (h : b ∈ f) : b.length ≤ f.flatten.length := by
  induction f with
  | nil => simp at h
  | cons c f ih =>
    simp only [List.flatten_cons, List.length_append]
    rcases List.mem_cons.1 h with rfl | h
    · omega
    · have := ih h; omega
theorem crossL_ok {a b : List Spl} {m n : Nat} (ha : ∀ s ∈ a, SOk m s) (hb : ∀ s ∈ b, SOk n s) : ∀ s ∈ crossL a b, SOk (m + n) s := fun s hs => by
  obtain ⟨x, hx, h⟩ := List.mem_flatMap.1 hs
  obtain ⟨y, hy, rfl⟩ := List.mem_map.1 h
  have h1 := ha x hx
  have h2 := hb y hy
  refine ⟨fun z hz => ?_, fun z hz => ?_, ?_⟩
  · rcases List.mem_append.1 hz with h | h
    · exact h1.c z h
    · exact h2.c z h
  · rcases List.mem_append.1 hz with h | h
    · exact h1.t z h
    · exact h2.t z h
  · have := h1.n; have := h2.n
    simp only [List.flatten_append, List.length_append]
    omega
theorem crossL_length (a b : List Spl) : (crossL a b).length = a.length * b.length := by
  unfold crossL
  induction a with
  | nil => simp
  | cons x a ih => rw [List.flatMap_cons, List.length_append, ih, List.length_map, List.length_cons, Nat.add_mul, Nat.one_mul]; omega
theorem crossL_snoc (a b : List Spl) (s : Spl) : crossL (a ++ [s]) b = crossL a b ++ b.map fun c => (s.1 ++ c.1, s.2 ++ c.2) := by
  unfold crossL; rw [List.flatMap_append]; simp
def foldS (f : Nat) (bs : For) (i : Nat) : List Spl := (bs.take i).foldl (fun l b => crossL l (splitF f b)) [([], [])]
theorem foldS_succ {f : Nat} {bs : For} {i : Nat} (h : i < bs.length) : foldS f bs (i + 1) = crossL (foldS f bs i) (splitF f bs[i]) := by
  unfold foldS; rw [List.take_succ_eq_append_getElem h, List.foldl_append]; rfl
theorem splitF_succ (f : Nat) (t : List Int) : splitF (f + 1) t = (foldS f (branchesL t) (branchesL t).length).map trunkF ++ [([canonI 8 t], [])] := by
  unfold foldS; rw [List.take_length]; rfl
theorem foldS_ok {f : Nat} {bs : For} (h : ∀ b ∈ bs, ∀ s ∈ splitF f b, SOk b.length s) : ∀ i, i ≤ bs.length → ∀ s ∈ foldS f bs i, SOk (bs.take i).flatten.length s
  | 0, _, s, hs => by
    simp [foldS] at hs
    subst hs
    exact ⟨fun b hb => by simp at hb, fun b hb => by simp at hb, by simp⟩
  | i + 1, hi, s, hs => by
    have hl : i < bs.length := by omega
    rw [foldS_succ hl] at hs
    rw [flat_take_len hl]
    exact crossL_ok (foldS_ok h i (by omega)) (h _ (List.getElem_mem hl)) s hs
theorem foldS_len {f : Nat} {bs : For} (h : ∀ b ∈ bs, (splitF f b).length ≤ 2 ^ b.length) : ∀ i, i ≤ bs.length → (foldS f bs i).length ≤ 2 ^ (bs.take i).flatten.length
  | 0, _ => by simp [foldS]
  | i + 1, hi => by
    have hl : i < bs.length := by omega
    rw [foldS_succ hl, crossL_length, flat_take_len hl, Nat.pow_add]
    exact Nat.mul_le_mul (foldS_len h i (by omega)) (h _ (List.getElem_mem hl))
theorem trunkF_ok {n : Nat} (hn : n ≤ 7) {s : Spl} (h : SOk n s) : SOk (n + 1) (trunkF s) := by
  have hr := rootL_lv h.t
  have hl := rootL_length s.2
  have h1 := h.n
  have hc := canonI_ok 8 hr (by omega)
  refine ⟨h.c, fun b hb => ?_, ?_⟩
  · simp [trunkF] at hb; subst hb; exact hc.1
  · simp only [trunkF, List.flatten_cons, List.flatten_nil, List.append_nil]; omega
theorem splitF_ok (f : Nat) : ∀ {t : List Int}, Lv t → t.length ≤ f → t.length ≤ 8 → (∀ s ∈ splitF f t, SOk t.length s) ∧ (splitF f t).length ≤ 2 ^ t.length := by
  induction f with
  | zero => intro t ht hn; exact absurd ht.pos (by omega)
  | succ f ih =>
  intro t ht hn h8
  have hbr := branches_ok ht
  have hcnt := branchesL_count ht
  have hb : ∀ b ∈ branchesL t, (∀ s ∈ splitF f b, SOk b.length s) ∧ (splitF f b).length ≤ 2 ^ b.length := fun b hb => by
    have := hbr.2 b hb
    exact ih this.1 (by omega) (by omega)
  have h1 := foldS_ok (fun b h => (hb b h).1) _ (Nat.le_refl _)
  have h2 := foldS_len (fun b h => (hb b h).2) _ (Nat.le_refl _)
  rw [List.take_length] at h1 h2
  have hc := canonI_ok 8 ht h8
  rw [splitF_succ]
  refine ⟨fun s hs => ?_, ?_⟩
  · rcases List.mem_append.1 hs with h | h
    · obtain ⟨x, hx, rfl⟩ := List.mem_map.1 h
      rw [← hcnt]
      exact trunkF_ok (by omega) (h1 x hx)
    · simp at h; subst h
      exact ⟨fun b hb => by simp at hb; subst hb; exact hc.1, fun b hb => by simp at hb, by simp; exact hc.2.1⟩
  · rw [List.length_append, List.length_map, List.length_singleton]
    rw [← hcnt, Nat.pow_succ]
    have := Nat.one_le_two_pow (n := (branchesL t).flatten.length)
    omega
theorem SOk.crown_len {n : Nat} {s : Spl} (h : SOk n s) : s.1.length ≤ n := by have := Lv.le_flat h.c; have := h.n; omega
theorem SOk.trunk_len {n : Nat} {s : Spl} (h : SOk n s) : s.2.length ≤ n := by have := Lv.le_flat h.t; have := h.n; omega
/-! The order of cuts; sorted and counted. -/
def cmpC (x y : Spl) : Int := if cmpF x.1 y.1 ≠ 0 then cmpF x.1 y.1 else cmpTr x.2 y.2
theorem ord_cmpC : Ord3 cmpC := ord_cut
def insC (x : Spl) : List Spl → List Spl
  | [] => [x]
  | y :: l => if cmpC x y ≤ 0 then x :: y :: l else y :: insC x l
def sortC : List Spl → List Spl
  | [] => []
  | x :: l => insC x (sortC l)
theorem insC_perm (x : Spl) : ∀ l, (insC x l).Perm (x :: l)
  | [] => List.Perm.refl _
  | y :: l => by
    unfold insC
    split
    · exact List.Perm.refl _
    · exact ((insC_perm x l).cons y).trans (List.Perm.swap x y l)
theorem sortC_perm : ∀ l, (sortC l).Perm l
  | [] => List.Perm.refl _
  | x :: l => (insC_perm x _).trans ((sortC_perm l).cons x)
theorem Ord3.le_trans {α : Type} {c : α → α → Int} (h : Ord3 c) {a b d : α} (h1 : c a b ≤ 0) (h2 : c b d ≤ 0) : c a d ≤ 0 := by
  by_cases e1 : c a b = 0
  · rw [h.eq _ _ e1]; exact h2
  · by_cases e2 : c b d = 0
    · rw [← h.eq _ _ e2]; exact h1
    · have := h.trans a b d (by omega) (by omega); omega
theorem insC_sorted (x : Spl) : ∀ l, l.Pairwise (fun a b => cmpC a b ≤ 0) → (insC x l).Pairwise (fun a b => cmpC a b ≤ 0)
  | [], _ => by simp [insC]
  | y :: l, h => by
    have hp := List.pairwise_cons.1 h
    unfold insC
    split
    · rename_i hle
      refine List.pairwise_cons.2 ⟨fun z hz => ?_, h⟩
      rcases List.mem_cons.1 hz with rfl | hz
      · exact hle
      · exact ord_cmpC.le_trans hle (hp.1 z hz)
    · rename_i hgt
      refine List.pairwise_cons.2 ⟨fun z hz => ?_, insC_sorted x l hp.2⟩
      rcases List.mem_cons.1 ((insC_perm x l).mem_iff.1 hz) with rfl | hz
      · have := (ord_cmpC.anti y z).2 (by omega); omega
      · exact hp.1 z hz
theorem sortC_sorted : ∀ l, (sortC l).Pairwise (fun a b => cmpC a b ≤ 0)
  | [] => List.Pairwise.nil
  | x :: l => insC_sorted x _ (sortC_sorted l)
theorem sortC_unique {a b : List Spl} (hp : a.Perm b) (ha : a.Pairwise (fun x y => cmpC x y ≤ 0)) : a = sortC b :=
  ord_cmpC.unique (hp.trans (sortC_perm b).symm) ha (sortC_sorted b)
def addC (out : List SplD) (s : Spl) : List SplD :=
  match out.getLast? with
  | some x => if cmpC (x.1, x.2.1) s = 0 then out.dropLast ++ [(x.1, x.2.1, x.2.2 + 1)] else out ++ [(s.1, s.2, 1)]
  | none => out ++ [(s.1, s.2, 1)]
def groupC (l : List Spl) : List SplD := l.foldl addC []
def sortF (s : Spl) : Spl := (insSort ltT s.1, insSort ltT s.2)
def gatherL (l : List Spl) : List SplD := groupC (sortC (l.map sortF))
abbrev CutD := For × List Int × Int
def cutF (s : SplD) : CutD := (s.1, s.2.1.headD [], s.2.2)
def cutsL (t : List Int) : List CutD := (gatherL (splitF 8 t)).map cutF
/-- The place of a canonical tree in maps. -/
def placeT (t : List Int) : Nat := (treesTo 6).idxOf t + 1
abbrev RowD := Int × List Nat × Nat
def mapCutF (c : CutD) : RowD := (c.2.2, c.1.map placeT, if c.2.1 = [] then 0 else placeT c.2.1)
def cutLit : List (List RowD) := [
  [(1, [], 1), (1, [1], 0)],
  [(1, [], 2), (1, [1], 1), (1, [2], 0)],
  [(1, [], 3), (1, [1], 2), (1, [2], 1), (1, [3], 0)],
  [(1, [], 4), (2, [1], 2), (1, [1, 1], 1), (1, [4], 0)],
  [(1, [], 5), (1, [1], 3), (1, [2], 2), (1, [3], 1), (1, [5], 0)],
  [(1, [], 6), (2, [1], 3), (1, [1, 1], 2), (1, [4], 1), (1, [6], 0)],
  [(1, [], 7), (1, [1], 3), (1, [1], 4), (1, [2], 2), (1, [1, 1], 2), (1, [1, 2], 1), (1, [7], 0)],
  [(1, [], 8), (3, [1], 4), (3, [1, 1], 2), (1, [1, 1, 1], 1), (1, [8], 0)],
  [(1, [], 9), (1, [1], 5), (1, [2], 3), (1, [3], 2), (1, [5], 1), (1, [9], 0)],
  [(1, [], 10), (2, [1], 5), (1, [1, 1], 3), (1, [4], 2), (1, [6], 1), (1, [10], 0)],
  [(1, [], 11), (1, [1], 5), (1, [1], 6), (1, [2], 3), (1, [1, 1], 3), (1, [1, 2], 2), (1, [7], 1), (1, [11], 0)],
  [(1, [], 12), (1, [1], 5), (1, [1], 7), (1, [2], 4), (1, [1, 1], 3), (1, [3], 2), (1, [1, 2], 2), (1, [1, 3], 1), (1, [12], 0)],
  [(1, [], 13), (3, [1], 6), (3, [1, 1], 3), (1, [1, 1, 1], 2), (1, [8], 1), (1, [13], 0)],
  [(1, [], 14), (1, [1], 6), (2, [1], 7), (2, [1, 1], 3), (1, [1, 1], 4), (1, [4], 2), (1, [1, 1, 1], 2), (1, [1, 4], 1), (1, [14], 0)],
  [(1, [], 15), (2, [1], 7), (2, [2], 3), (1, [1, 1], 4), (2, [1, 2], 2), (1, [2, 2], 1), (1, [15], 0)],
  [(1, [], 16), (2, [1], 7), (1, [1], 8), (1, [2], 4), (1, [1, 1], 3), (2, [1, 1], 4), (2, [1, 2], 2), (1, [1, 1, 1], 2), (1, [1, 1, 2], 1), (1, [16], 0)],
  [(1, [], 17), (4, [1], 8), (6, [1, 1], 4), (4, [1, 1, 1], 2), (1, [1, 1, 1, 1], 1), (1, [17], 0)],
  [(1, [], 18), (1, [1], 9), (1, [2], 5), (1, [3], 3), (1, [5], 2), (1, [9], 1), (1, [18], 0)],
  [(1, [], 19), (2, [1], 9), (1, [1, 1], 5), (1, [4], 3), (1, [6], 2), (1, [10], 1), (1, [19], 0)],
  [(1, [], 20), (1, [1], 9), (1, [1], 10), (1, [2], 5), (1, [1, 1], 5), (1, [1, 2], 3), (1, [7], 2), (1, [11], 1), (1, [20], 0)],
  [(1, [], 21), (1, [1], 9), (1, [1], 11), (1, [2], 6), (1, [1, 1], 5), (1, [3], 3), (1, [1, 2], 3), (1, [1, 3], 2), (1, [12], 1), (1, [21], 0)],
  [(1, [], 22), (1, [1], 9), (1, [1], 12), (1, [2], 7), (1, [1, 1], 5), (1, [3], 4), (1, [1, 2], 3), (1, [5], 2), (1, [1, 3], 2), (1, [1, 5], 1), (1, [22], 0)],
  [(1, [], 23), (3, [1], 10), (3, [1, 1], 5), (1, [1, 1, 1], 3), (1, [8], 2), (1, [13], 1), (1, [23], 0)],
  [(1, [], 24), (1, [1], 10), (2, [1], 11), (2, [1, 1], 5), (1, [1, 1], 6), (1, [4], 3), (1, [1, 1, 1], 3), (1, [1, 4], 2), (1, [14], 1), (1, [24], 0)],
  [(1, [], 25), (1, [1], 10), (2, [1], 12), (2, [1, 1], 5), (1, [1, 1], 7), (1, [4], 4), (1, [1, 1, 1], 3), (1, [6], 2), (1, [1, 4], 2), (1, [1, 6], 1), (1, [25], 0)],
  [(1, [], 26), (2, [1], 11), (2, [2], 5), (1, [1, 1], 6), (2, [1, 2], 3), (1, [2, 2], 2), (1, [15], 1), (1, [26], 0)],
  [(1, [], 27), (2, [1], 11), (1, [1], 13), (1, [2], 6), (1, [1, 1], 5), (2, [1, 1], 6), (2, [1, 2], 3), (1, [1, 1, 1], 3), (1, [1, 1, 2], 2), (1, [16], 1), (1, [27], 0)],
  [(1, [], 28), (1, [1], 11), (1, [1], 12), (1, [1], 14), (1, [2], 7), (1, [1, 1], 5), (1, [1, 1], 6), (1, [1, 1], 7), (1, [1, 2], 3), (1, [1, 2], 4), (1, [1, 1, 1], 3), (1, [7], 2), (1, [1, 1, 2], 2), (1, [1, 7], 1), (1, [28], 0)],
  [(1, [], 29), (1, [1], 12), (1, [1], 15), (1, [2], 5), (1, [2], 7), (1, [1, 1], 7), (1, [3], 3), (1, [1, 2], 3), (1, [1, 2], 4), (1, [1, 3], 2), (1, [2, 2], 2), (1, [2, 3], 1), (1, [29], 0)],
  [(1, [], 30), (2, [1], 12), (1, [1], 16), (1, [2], 8), (1, [1, 1], 5), (2, [1, 1], 7), (1, [3], 4), (2, [1, 2], 4), (1, [1, 1, 1], 3), (2, [1, 3], 2), (1, [1, 1, 2], 2), (1, [1, 1, 3], 1), (1, [30], 0)],
  [(1, [], 31), (4, [1], 13), (6, [1, 1], 6), (4, [1, 1, 1], 3), (1, [1, 1, 1, 1], 2), (1, [17], 1), (1, [31], 0)],
  [(1, [], 32), (1, [1], 13), (3, [1], 14), (3, [1, 1], 6), (3, [1, 1], 7), (3, [1, 1, 1], 3), (1, [1, 1, 1], 4), (1, [8], 2), (1, [1, 1, 1, 1], 2), (1, [1, 8], 1), (1, [32], 0)],
  [(1, [], 33), (1, [1], 14), (2, [1], 15), (1, [2], 6), (3, [1, 1], 7), (1, [4], 3), (2, [1, 2], 3), (1, [1, 1, 1], 4), (1, [1, 4], 2), (1, [1, 1, 2], 2), (1, [2, 4], 1), (1, [33], 0)],
  [(1, [], 34), (2, [1], 14), (2, [1], 16), (1, [1, 1], 6), (4, [1, 1], 7), (1, [1, 1], 8), (1, [4], 4), (2, [1, 1, 1], 3), (2, [1, 1, 1], 4), (2, [1, 4], 2), (1, [1, 1, 1, 1], 2), (1, [1, 1, 4], 1), (1, [34], 0)],
  [(1, [], 35), (1, [1], 15), (2, [1], 16), (2, [2], 7), (2, [1, 1], 7), (1, [1, 1], 8), (2, [1, 2], 3), (2, [1, 2], 4), (1, [1, 1, 1], 4), (1, [2, 2], 2), (2, [1, 1, 2], 2), (1, [1, 2, 2], 1), (1, [35], 0)],
  [(1, [], 36), (3, [1], 16), (1, [1], 17), (1, [2], 8), (3, [1, 1], 7), (3, [1, 1], 8), (3, [1, 2], 4), (1, [1, 1, 1], 3), (3, [1, 1, 1], 4), (3, [1, 1, 2], 2), (1, [1, 1, 1, 1], 2), (1, [1, 1, 1, 2], 1), (1, [36], 0)],
  [(1, [], 37), (5, [1], 17), (10, [1, 1], 8), (10, [1, 1, 1], 4), (5, [1, 1, 1, 1], 2), (1, [1, 1, 1, 1, 1], 1), (1, [37], 0)]]
set_option maxRecDepth 100000 in
theorem cutLit_eq : ((treesTo 6).map fun t => (cutsL t).map mapCutF) = cutLit := by kernel_rfl
end Go.Rk
/- slices.SortFunc at cuts: the row holds the same cuts, in their order. -/
set_option maxRecDepth 8000
namespace Go.Fw
open Go Go.RowKit Go.Sort Go.Proofs
theorem tsame_sortWorldK {α : Type} [Inhabited α] {e e2 t0 : TypeId} {enc : α → List Value} {k blk off m : Nat} {w : World} {dk : Array α} {os : Array Obj} {cur : Array Value} (hb : w.heap[blk]? = some (Obj.cells cur t0 (0, 0))) (h1 : t0 ≠ e) (h2 : t0 ≠ e2) :
    TSame e e2 w (sortWorldK enc k w blk off m dk os) := by
  refine ⟨size_sortWorldK_c enc k w blk off m dk os, fun i c t hi ht => ?_⟩
  have hlt : i < w.heap.size := (Array.getElem?_eq_some_iff.1 hi).1
  have hne : blk ≠ i := fun e' => by
    subst e'
    rw [hb] at hi
    simp only [Option.some.injEq, Obj.cells.injEq] at hi
    rcases ht with rfl | rfl
    · exact h1 hi.2.1
    · exact h2 hi.2.1
  show ((w.heap.modify blk _) ++ os)[i]? = _
  rw [Array.getElem?_append_left (by simpa using hlt), Array.getElem?_modify, if_neg hne]
theorem below_sortWorldK {α : Type} [Inhabited α] {enc : α → List Value} {k blk off m B : Nat} {w : World} {dk : Array α} {os : Array Obj} (hB : B ≤ blk) (hb : blk < w.heap.size) : Below B w (sortWorldK enc k w blk off m dk os) := by
  refine ⟨rfl, rfl, rfl, size_sortWorldK_c enc k w blk off m dk os, fun i hi => ?_⟩
  show ((w.heap.modify blk _) ++ os)[i]? = _
  rw [Array.getElem?_append_left (by simp; omega), Array.getElem?_modify, if_neg (by omega)]
theorem putCells_take (F cur : Array Value) (h : F.size ≤ cur.size) : (putCells id 0 F cur).toList.take F.size = F.toList := by
  apply List.ext_getElem?
  intro i
  rw [List.getElem?_take]
  by_cases hi : i < F.size
  · rw [if_pos hi]
    have : i < cur.size := by omega
    simp [putCells, hi, this]
  · rw [if_neg hi, List.getElem?_eq_none (by simp; omega)]
theorem flatK3 {α : Type} [Inhabited α] (g : α → Tri) (d : Array α) : (flatK (fun x => (g x).cells) 3 d).toList = flat3 (d.toList.map g) := by
  apply List.ext_getElem?
  intro i
  by_cases hi : i < d.size * 3
  · have hd : i / 3 < d.size := by omega
    have h1 : (d.toList.map g)[i / 3]? = some (g d[i / 3]) := by simp [hd]
    have h2 := flat3_get _ h1 (i % 3) (by omega)
    rw [show i / 3 * 3 + i % 3 = i from by omega] at h2
    rw [h2]
    have h3 := get_flatK (fun x => (g x).cells) 3 d i hi
    have h4 : i < (flatK (fun x => (g x).cells) 3 d).size := by simpa using hi
    rw [getElem!_pos (flatK (fun x => (g x).cells) 3 d) i h4] at h3
    rw [Array.getElem?_toList, Array.getElem?_eq_getElem h4, h3, getElem!_pos d (i / 3) hd]
    have h5 : i % 3 < (g d[i / 3]).cells.length := by simp [Tri.cells]; omega
    rw [getElem!_pos (g d[i / 3]).cells (i % 3) h5, List.getElem?_eq_getElem h5]
  · rw [List.getElem?_eq_none (by simp; omega), List.getElem?_eq_none (by rw [flat3_length]; simp; omega)]
theorem holds_own3 {α : Type} [Inhabited α] {lo blk n c : Nat} {e : TypeId} {w : World} {ts : List Tri} {g : α → Tri} {d : Array α} (h : Own3 lo e w (.slice (some ⟨blk, 0, none⟩) n c) ts) (hd : d.toList.map g = ts) : HoldsK (fun x => (g x).cells) 3 w blk 0 d := by
  intro j hj
  have hl : (flatK (fun x => (g x).cells) 3 d).toList = flat3 ts := by rw [flatK3, hd]
  have hs : ts.length = d.size := by rw [← hd]; simp
  rw [size_flatK] at hj
  have hn : n = ts.length := by
    obtain ⟨_, _, hv, _⟩ := h.shape
    simp only [Value.slice.injEq] at hv
    exact hv.2.1
  subst hn
  rw [Nat.zero_add, World.ownsRow.cellAt h j (by omega), World.ownsRow.frozenAt h j]
  refine ⟨?_, rfl⟩
  have hj2 : j < (flatK (fun x => (g x).cells) 3 d).size := by rw [size_flatK]; exact hj
  rw [← hl, Array.getElem?_toList, Array.getElem?_eq_getElem hj2, getElem!_pos (flatK (fun x => (g x).cells) 3 d) j hj2]
  rfl
theorem own3_sortWorldK {α : Type} [Inhabited α] {lo blk n c m : Nat} {e : TypeId} {w : World} {ts : List Tri} {g : α → Tri} {d : Array α} {os : Array Obj} (h : Own3 lo e w (.slice (some ⟨blk, 0, none⟩) n c) ts) (hd : d.size = ts.length) :
    Own3 lo e (sortWorldK (fun x => (g x).cells) 3 w blk 0 m d os) (.slice (some ⟨blk, 0, none⟩) n c) (d.toList.map g) := by
  obtain ⟨_, ⟨h0, _⟩ | ⟨g0, cap, cur, hv, hb, hg, h3, h4, h5, h6⟩⟩ := h
  · cases h0
  simp only [Value.slice.injEq, Option.some.injEq, Addr.mk.injEq] at hv
  obtain ⟨⟨rfl, _⟩, rfl, rfl⟩ := hv
  have hlt : blk < w.heap.size := (Array.getElem?_eq_some_iff.1 hg).1
  have hlen : (d.toList.map g).length = ts.length := by simp [hd]
  refine ⟨by rw [flat3_length], .inr ⟨blk, c, putCells id 0 (flatK (fun x => (g x).cells) 3 d) cur, by rw [hlen], hb, ?_, by omega, h4, ?_, ?_⟩⟩
  · show ((w.heap.modify blk _) ++ os)[blk]? = _
    rw [Array.getElem?_append_left (by simpa using hlt), Array.getElem?_modify, if_pos rfl, hg]
    rfl
  · simp [putCells, h5]
  · rw [hlen, ← flatK3, ← hd]
    have := putCells_take (flatK (fun x => (g x).cells) 3 d) cur (by rw [size_flatK, h5, hd]; exact Nat.mul_le_mul_right 3 h3)
    rw [size_flatK] at this
    exact this
theorem pair_list {α β : Type} {p : α → β → Prop} : ∀ (ts : List α) (xs : List β), ts.length = xs.length → (∀ (i : Nat) t x, ts[i]? = some t → xs[i]? = some x → p t x) → ∃ l : List {q : α × β // p q.1 q.2}, l.map (fun q => q.1.1) = ts ∧ l.map (fun q => q.1.2) = xs
  | [], [], _, _ => ⟨[], rfl, rfl⟩
  | [], _ :: _, h, _ => by simp at h
  | _ :: _, [], h, _ => by simp at h
  | t :: ts, x :: xs, h, hp => by
    obtain ⟨l, h1, h2⟩ := pair_list ts xs (by simpa using h) fun i t' x' ht hx => hp (i + 1) t' x' (by simpa using ht) (by simpa using hx)
    exact ⟨⟨(t, x), hp 0 t x rfl rfl⟩ :: l, by simp [h1], by simp [h2]⟩
end Go.Fw
namespace Go.Proofs
open Go Go.Fw Go.RowKit Go.Rk
/-- A cut in memory: its two forests, and its number. -/
def SplR (w : World) (t : Tri) (x : Spl) (n : Int) : Prop := Roo 22 2 w t.1 x.1 ∧ Roo 22 2 w t.2.1 x.2 ∧ t.2.2 = .int .i64 n
theorem SplR.tsame {w w' : World} {t : Tri} {x : Spl} {n : Int} (h : SplR w t x n) (hs : TSame 22 2 w w') : SplR w' t x n := ⟨h.1.tsame hs, h.2.1.tsame hs, h.2.2⟩
theorem SplR.one {w : World} {t : Tri} {x : Spl} {n : Int} (h : SplR w t x n) : t.one := by
  obtain ⟨a, c, h1⟩ := h.1.shape
  obtain ⟨a', c', h2⟩ := h.2.1.shape
  exact ⟨by rw [h1]; rfl, by rw [h2]; rfl, by rw [h.2.2]; rfl⟩
/-- A list of cuts in memory. -/
def SplA (w : World) (ts : List Tri) (xs : List Spl) (n : Int) : Prop := ts.length = xs.length ∧ ∀ (i : Nat) t x, ts[i]? = some t → xs[i]? = some x → SplR w t x n
theorem SplA.tsame {w w' : World} {ts : List Tri} {xs : List Spl} {n : Int} (h : SplA w ts xs n) (hs : TSame 22 2 w w') : SplA w' ts xs n := ⟨h.1, fun i t x ht hx => (h.2 i t x ht hx).tsame hs⟩
theorem SplA.snoc {w : World} {ts : List Tri} {xs : List Spl} {n : Int} {t : Tri} {x : Spl} (h : SplA w ts xs n) (hr : SplR w t x n) : SplA w (ts ++ [t]) (xs ++ [x]) n := by
  refine ⟨by simp [h.1], fun i u y hu hy => ?_⟩
  rw [List.getElem?_append] at hu hy
  rw [← h.1] at hy
  split at hu
  · rename_i hi; rw [if_pos hi] at hy; exact h.2 i u y hu hy
  · rename_i hi
    rw [if_neg hi] at hy
    rcases Nat.eq_zero_or_pos (i - ts.length) with h0 | h0
    · rw [h0] at hu hy; simp at hu hy; subst hu hy; exact hr
    · rw [List.getElem?_eq_none (by simp; omega)] at hu; cases hu
theorem SplA.nil (w : World) (n : Int) : SplA w [] [] n := ⟨rfl, fun i t x h => by simp at h⟩
theorem TSame.alloc {e e2 : TypeId} (w : World) (o : Obj) : TSame e e2 w (w.alloc o) := TSame.below (below_alloc w o)
abbrev SplB (w : World) := {q : Tri × Spl // SplR w q.1 q.2 1 ∧ q.2.1.flatten.length ≤ 1000000000}
instance (w : World) : Inhabited (SplB w) := ⟨⟨((.slice none 0 0, .slice none 0 0, .int .i64 1), ([], [])), ⟨Roo.nil _ _ _, Roo.nil _ _ _, rfl⟩, by simp⟩⟩
set_option maxHeartbeats 1000000 in
theorem sortSplits_any {lo : Nat} {w : World} {v : Value} {ts : List Tri} {xs : List Spl} (h : Own3 lo 88 w v ts) (hx : SplA w ts xs 1) (h1 : 1 ≤ ts.length) (hb : ∀ x ∈ xs, x.1.flatten.length ≤ 1000000000) (hn : ts.length ≤ 1000000) :
    Does Try.prog 91 [v, .func (.func 88) #[] #[]] w fun r w' =>
      r = .tuple #[] ∧ (∃ ts', Own3 lo 88 w' v ts' ∧ SplA w' ts' (sortC xs) 1) ∧ Below lo w w' ∧ TSame 22 2 w w' := by
  obtain ⟨l, hl1, hl2⟩ := pair_list (p := fun (t : Tri) (x : Spl) => SplR w t x 1 ∧ x.1.flatten.length ≤ 1000000000) ts xs hx.1 fun i t x ht hxx => ⟨hx.2 i t x ht hxx, hb x (List.mem_of_getElem? hxx)⟩
  obtain ⟨blk, c, hv, hlo, hlt, _, _, _⟩ := h.place (i := 0) (t := ts[0]) (List.getElem?_eq_getElem (by omega))
  subst hv
  obtain ⟨cur, hcur⟩ := h.elem (k := blk) rfl
  have hsz : (l.toArray : Array (SplB w)).size = ts.length := by rw [← hl1]; simp
  have hts : ∀ (m : Nat) (dk : Array (SplB w)) (os : Array Obj), TSame 22 2 w (sortWorldK (fun (x : SplB w) => x.1.1.cells) 3 w blk 0 m dk os) := fun m dk os => tsame_sortWorldK hcur (by decide) (by decide)
  have hH : Go.Sort.HoldsK (fun (x : SplB w) => x.1.1.cells) 3 w blk 0 l.toArray := holds_own3 (g := fun (x : SplB w) => x.1.1) h (by simpa using hl1)
  have hO : Go.Sort.SWO (ltOf fun (x y : SplB w) => cmpC x.1.2 y.1.2) := swo_ord ord_cmpC (fun (x : SplB w) => x.1.2)
  have hC : CmpLays Try.prog 88 #[] (fun (x : SplB w) => x.1.1.cells) 3 (fun x y => cmpC x.1.2 y.1.2) blk 0 (l.toArray : Array (SplB w)).size w := by
    intro m os dk _ x y
    have hxs := (x.2.1).tsame (hts m dk os)
    have hys := (y.2.1).tsame (hts m dk os)
    have hd := cutCmp_eq (n := x.1.1.2.2) (n' := y.1.1.2.2) (x := (x.1.2.1, x.1.2.2, 1)) (y := (y.1.2.1, y.1.2.2, 1)) hxs.1.rd hxs.2.1.rd hys.1.rd hys.2.1.rd x.2.2 y.2.2
    refine Calls.mono hd ?_
    rintro e w' ⟨_, rfl, rfl, o1, o2, rfl⟩
    refine ⟨rfl, 0, #[o1, o2], ?_⟩
    have e0 : ∀ W : World, W.drewN 0 = W := fun W => rfl
    rw [e0, Go.Sort.alloc_eq_grow, Go.Sort.alloc_eq_grow, Go.Sort.grow_grow]
    rfl
  have key := AnyQ.slices_SortFunc (P := Try.prog) (ρ := Try.laySplit_ren) Try.laySplit 3 Try.isAgg88 Try.sizeOf88 (fun (x : SplB w) => x.1.1.cells) (fun x => rfl) (fun x u hu => by
    have h1 := x.2.1.one
    unfold Tri.cells at hu
    simp only [List.mem_cons, List.not_mem_nil, or_false] at hu
    rcases hu with rfl | rfl | rfl
    · exact h1.1
    · exact h1.2.1
    · exact h1.2.2) (fun x y => cmpC x.1.2 y.1.2) hO 88 #[] blk 0 c l.toArray w (fun args w => run_callFunc (f := 88) args) hC hH hlt (by rw [hsz]; omega)
  rw [hsz] at key
  refine Calls.mono key ?_
  rintro e w' ⟨rfl, d', n, os, hp, hso, rfl⟩
  have hds : d'.size = ts.length := by rw [hp.1, hsz]
  have hperm : d'.toList.Perm l := by
    have := hp.2.2
    rw [show (d'.extract 0 ts.length) = d' from by rw [← hds]; simp, show ((l.toArray : Array (SplB w)).extract 0 ts.length) = l.toArray from by rw [← hsz]; simp] at this
    simpa using this
  have hsrt : d'.toList.map (fun x => x.1.2) = sortC xs := by
    refine sortC_unique ?_ ?_
    · rw [← hl2]; exact hperm.map _
    · rw [List.pairwise_map, List.pairwise_iff_getElem]
      intro i j hi hj hij
      have hi' : i < d'.size := by simpa using hi
      have hj' : j < d'.size := by simpa using hj
      have hlt0 := of_decide_eq_false (hso i j (Nat.zero_le _) hij (by omega))
      rw [getElem!_pos d' j hj', getElem!_pos d' i hi'] at hlt0
      have hlt : ¬ cmpC (d'[j]).1.2 (d'[i]).1.2 < 0 := hlt0
      have := (ord_cmpC.anti (d'[j]).1.2 (d'[i]).1.2)
      have h2 := ord_cmpC.anti (d'[i]).1.2 (d'[j]).1.2
      rw [Array.getElem_toList, Array.getElem_toList]
      omega
  refine ⟨_, rfl, rfl, ⟨d'.toList.map (fun x => x.1.1), own3_sortWorldK (g := fun (x : SplB w) => x.1.1) h hds, ?_⟩, below_sortWorldK hlo hlt, hts _ _ _⟩
  rw [← hsrt]
  refine ⟨by simp, fun i t x ht hxx => ?_⟩
  rw [List.getElem?_map] at ht hxx
  cases hq : d'.toList[i]? with
  | none => rw [hq] at ht; cases ht
  | some q =>
    rw [hq] at ht hxx
    simp only [Option.map_some, Option.some.injEq] at ht hxx
    subst ht hxx
    exact q.2.1.tsame (hts _ _ _)
end Go.Proofs
