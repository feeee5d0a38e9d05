/- The reference's cuts: products of forests, cuts of trees. -/
import Derived.Test.YtncilhecdihmeaaGreatG5
set_option maxRecDepth 8000
namespace Go.Rk
open Go.Fw Go.Proofs
def atT (x : List Int) : For → Nat
  | [] => 0
  | y :: r => if cmpT x y < 0 then 0 else atT x r + 1
theorem atT_le (x : List Int) (ss : For) : atT x ss ≤ ss.length := by
  induction ss with
  | nil => simp [atT]
  | cons s ss ih => unfold atT; split <;> simp <;> omega
theorem atT_drop {x : List Int} {ss : For} {i : Nat} (h : i < ss.length) : i + atT x (ss.drop i) = if cmpT x ss[i] < 0 then i else (i + 1) + atT x (ss.drop (i + 1)) := by
  rw [List.drop_eq_getElem_cons h, atT]
  split <;> omega
theorem insT_at (x : List Int) : ∀ ss, insT x ss = ss.take (atT x ss) ++ ([x] ++ ss.drop (atT x ss))
  | [] => rfl
  | y :: r => by
    unfold insT atT
    split
    · rfl
    · rw [insT_at x r]; rfl
theorem insT_perm (x : List Int) : ∀ ss, (insT x ss).Perm (x :: ss)
  | [] => List.Perm.refl _
  | y :: r => by
    unfold insT
    split
    · exact List.Perm.refl _
    · exact ((insT_perm x r).cons y).trans (List.Perm.swap x y r)
theorem sortTS_succ {f : For} {i : Nat} (h : i < f.length) : sortTS (f.take (i + 1)) = insT f[i] (sortTS (f.take i)) := by
  unfold sortTS; rw [List.take_succ_eq_append_getElem h, List.foldl_append]; rfl
theorem sortTS_go (f : For) : ∀ out : For, (f.foldl (fun out x => insT x out) out).Perm (f ++ out) := by
  induction f with
  | nil => intro out; exact List.Perm.refl _
  | cons x f ih =>
    intro out
    exact (ih (insT x out)).trans (((insT_perm x out).append_left f).trans List.perm_middle)
theorem sortTS_perm (f : For) : (sortTS f).Perm f := by have := sortTS_go f []; rw [List.append_nil] at this; exact this
theorem sortTS_len (f : For) : (sortTS f).length = f.length := (sortTS_perm f).length_eq
theorem sortTS_flat (f : For) : (sortTS f).flatten.length = f.flatten.length := flatten_length_perm (sortTS_perm f)
theorem insL_perm (part : List Int) (ss : For) : (insL part ss).Perm (part :: ss) := by
  unfold insL
  refine List.perm_middle.trans ?_
  show (part :: (ss.take (insAt part ss) ++ ss.drop (insAt part ss))).Perm _
  rw [List.take_append_drop]
theorem sortGo_perm (g : List Int → List Int) : ∀ (bs ss : For), (sortGo g ss bs).Perm (ss ++ bs.map g)
  | [], ss => by rw [sortGo, List.map_nil, List.append_nil]
  | b :: bs, ss => by
    rw [sortGo, List.map_cons]
    exact (sortGo_perm g bs (insL (g b) ss)).trans (((insL_perm (g b) ss).append_right _).trans (List.perm_middle.symm))
theorem flat_len_congr {g : List Int → List Int} : ∀ (bs : For), (∀ b ∈ bs, (g b).length = b.length) → (bs.map g).flatten.length = bs.flatten.length
  | [], _ => rfl
  | b :: bs, h => by
    rw [List.map_cons, List.flatten_cons, List.flatten_cons, List.length_append, List.length_append, h b (by simp), flat_len_congr bs fun c hc => h c (by simp [hc])]
theorem canonL_ok (f : Nat) : ∀ {t : List Int}, Lv t → t.length ≤ f → t.length ≤ 8 → Lv (canonL f t) ∧ (canonL f t).length = t.length := by
  induction f with
  | zero => intro t ht hn; exact absurd ht.pos (by omega)
  | succ f ih =>
  intro t ht hn h8
  have hbr := branches_ok ht
  have hcnt := branchesL_count ht
  have hp := sortGo_perm (canonL f) (branchesL t) []
  rw [List.nil_append] at hp
  have hb : ∀ b ∈ branchesL t, Lv (canonL f b) ∧ (canonL f b).length = b.length := fun b hb => by have := hbr.2 b hb; exact ih this.1 (by omega) (by omega)
  have hS : ∀ s ∈ sortGo (canonL f) [] (branchesL t), Lv s ∧ s.length ≤ 8 := fun s hs => by
    obtain ⟨b, hbm, rfl⟩ := List.mem_map.1 (hp.mem_iff.1 hs)
    have h1 := hb b hbm
    have h2 := hbr.2 b hbm
    exact ⟨h1.1, by omega⟩
  have hinc : (sortGo (canonL f) [] (branchesL t)).flatten.map incW = (sortGo (canonL f) [] (branchesL t)).flatten.map (· + 1) := List.map_congr_left fun v hv => by
    obtain ⟨s, hs, hvs⟩ := List.mem_flatten.1 hv
    have h1 := (hS s hs).1.bdm v hvs
    have h2 := (hS s hs).2
    exact wrap_in (by unfold InI; omega)
  have he : canonL (f + 1) t = rootL (sortGo (canonL f) [] (branchesL t)) := by rw [canonL, hinc]; rfl
  rw [he]
  refine ⟨rootL_lv fun s hs => (hS s hs).1, ?_⟩
  rw [rootL_length, flatten_length_perm hp, flat_len_congr _ fun b hbm => (hb b hbm).2]
  exact hcnt
/-- A counted cut of n nodes. -/
structure POk (n : Nat) (s : SplD) : Prop where
  c : ∀ b ∈ s.1, Lv b
  t : ∀ b ∈ s.2.1, Lv b
  n : s.1.flatten.length + s.2.1.flatten.length = n
  pos : 1 ≤ s.2.2
def tot : List SplD → Int
  | [] => 0
  | s :: l => s.2.2 + tot l
theorem tot_append : ∀ a b, tot (a ++ b) = tot a + tot b
  | [], b => by simp [tot]
  | s :: a, b => by rw [List.cons_append, tot, tot, tot_append a b, Int.add_assoc]
theorem tot_put : ∀ (l : List SplD) (c : SplD), tot (putS l c) = tot l + c.2.2
  | [], c => by simp [putS, tot]
  | x :: r, c => by
    rw [putS_cons]
    split
    · simp only [tot]; omega
    · split
      · simp only [tot]; omega
      · simp only [tot, tot_put r c]; omega
theorem put_ok {n : Nat} : ∀ {l : List SplD} {c : SplD}, (∀ s ∈ l, POk n s) → POk n c → ∀ s ∈ putS l c, POk n s
  | [], c, _, hc, s, hs => by simp [putS] at hs; subst hs; exact hc
  | x :: r, c, hl, hc, s, hs => by
    have hx := hl x (by simp)
    rw [putS_cons] at hs
    split at hs
    · rcases List.mem_cons.1 hs with rfl | hs
      · exact hc
      · exact hl s hs
    · split at hs
      · rcases List.mem_cons.1 hs with rfl | hs
        · exact ⟨hx.c, hx.t, hx.n, by have := hx.pos; have := hc.pos; dsimp only; omega⟩
        · exact hl s (by simp [hs])
      · rcases List.mem_cons.1 hs with rfl | hs
        · exact hx
        · exact put_ok (fun y hy => hl y (by simp [hy])) hc s hs
theorem tot_len {n : Nat} : ∀ {l : List SplD}, (∀ s ∈ l, POk n s) → (l.length : Int) ≤ tot l ∧ ∀ s ∈ l, s.2.2 ≤ tot l
  | [], _ => ⟨by simp [tot], fun s hs => by simp at hs⟩
  | x :: r, h => by
    have h1 := (h x (by simp)).pos
    obtain ⟨h2, h3⟩ := tot_len (l := r) fun s hs => h s (by simp [hs])
    refine ⟨by rw [tot, List.length_cons]; omega, fun s hs => ?_⟩
    rw [tot]
    rcases List.mem_cons.1 hs with rfl | hs
    · omega
    · have := h3 s hs; omega
def timesD (x y : SplD) : SplD := (timesF x.1 y.1, timesF x.2.1 y.2.1, x.2.2 * y.2.2)
theorem timesF_ok {f g : For} (hf : ∀ b ∈ f, Lv b) (hg : ∀ b ∈ g, Lv b) : (∀ b ∈ timesF f g, Lv b) ∧ (timesF f g).flatten.length = f.flatten.length + g.flatten.length := by
  refine ⟨fun b hb => ?_, ?_⟩
  · rcases List.mem_append.1 ((sortTS_perm (f ++ g)).mem_iff.1 hb) with h | h
    · exact hf b h
    · exact hg b h
  · unfold timesF; rw [sortTS_flat, List.flatten_append, List.length_append]
theorem timesD_ok {m n : Nat} {x y : SplD} (hx : POk m x) (hy : POk n y) : POk (m + n) (timesD x y) := by
  have h1 := timesF_ok hx.c hy.c
  have h2 := timesF_ok hx.t hy.t
  refine ⟨h1.1, h2.1, ?_, ?_⟩
  · have := hx.n; have := hy.n; show (timesF x.1 y.1).flatten.length + (timesF x.2.1 y.2.1).flatten.length = _; omega
  · have := Int.mul_le_mul hx.pos hy.pos (by omega) (by have := hx.pos; omega)
    show 1 ≤ x.2.2 * y.2.2; omega
theorem timesRow_eq (x : SplD) (b out : List SplD) : timesRow x b out = b.foldl (fun out y => putS out (timesD x y)) out := rfl
theorem timesRow_succ {x : SplD} {b out : List SplD} {j : Nat} (h : j < b.length) : timesRow x (b.take (j + 1)) out = putS (timesRow x (b.take j) out) (timesD x b[j]) := by
  rw [timesRow_eq, timesRow_eq, List.take_succ_eq_append_getElem h, List.foldl_append]; rfl
theorem timesS_succ {a b : List SplD} {i : Nat} (h : i < a.length) : timesS (a.take (i + 1)) b = timesRow a[i] b (timesS (a.take i) b) := by
  unfold timesS; rw [List.take_succ_eq_append_getElem h, List.foldl_append]; rfl
theorem timesRow_ok {m n : Nat} {x : SplD} (hx : POk m x) : ∀ (b : List SplD) (out : List SplD), (∀ s ∈ b, POk n s) → (∀ s ∈ out, POk (m + n) s) → (∀ s ∈ timesRow x b out, POk (m + n) s) ∧ tot (timesRow x b out) = tot out + x.2.2 * tot b
  | [], out, _, ho => ⟨ho, by simp [timesRow, tot]⟩
  | y :: b, out, hb, ho => by
    have h1 := put_ok ho (timesD_ok hx (hb y (by simp)))
    have h2 := timesRow_ok hx b (putS out (timesD x y)) (fun s hs => hb s (by simp [hs])) h1
    refine ⟨h2.1, ?_⟩
    show tot (timesRow x b (putS out (timesD x y))) = _
    rw [h2.2, tot_put, tot, Int.mul_add]
    show tot out + x.2.2 * y.2.2 + _ = _
    omega
theorem timesS_go {m n : Nat} {b : List SplD} (hb : ∀ s ∈ b, POk n s) : ∀ (a out : List SplD), (∀ s ∈ a, POk m s) → (∀ s ∈ out, POk (m + n) s) → (∀ s ∈ a.foldl (fun out x => timesRow x b out) out, POk (m + n) s) ∧ tot (a.foldl (fun out x => timesRow x b out) out) = tot out + tot a * tot b
  | [], out, _, ho => ⟨ho, by simp [tot]⟩
  | x :: a, out, ha, ho => by
    have h1 := timesRow_ok (ha x (by simp)) b out hb ho
    have h2 := timesS_go hb a (timesRow x b out) (fun s hs => ha s (by simp [hs])) h1.1
    refine ⟨h2.1, ?_⟩
    show tot (a.foldl _ (timesRow x b out)) = _
    rw [h2.2, h1.2, tot, Int.add_mul]
    omega
theorem timesS_ok {m n : Nat} {a b : List SplD} (ha : ∀ s ∈ a, POk m s) (hb : ∀ s ∈ b, POk n s) : (∀ s ∈ timesS a b, POk (m + n) s) ∧ tot (timesS a b) = tot a * tot b := by
  have := timesS_go hb a [] ha (fun s hs => by simp at hs)
  exact ⟨this.1, by unfold timesS; rw [this.2]; simp [tot]⟩
def forestSt (f : Nat) (bs : For) (i : Nat) : List SplD := (bs.take i).foldl (fun out b => timesS out (treeS f b)) [([], [], 1)]
theorem forestSt_succ {f : Nat} {bs : For} {i : Nat} (h : i < bs.length) : forestSt f bs (i + 1) = timesS (forestSt f bs i) (treeS f bs[i]) := by
  unfold forestSt; rw [List.take_succ_eq_append_getElem h, List.foldl_append]; rfl
theorem forestSt_ok {f : Nat} {bs : For} (h : ∀ b ∈ bs, (∀ s ∈ treeS f b, POk b.length s) ∧ 0 ≤ tot (treeS f b) ∧ tot (treeS f b) ≤ 2 ^ b.length) : ∀ i, i ≤ bs.length → (∀ s ∈ forestSt f bs i, POk (bs.take i).flatten.length s) ∧ 0 ≤ tot (forestSt f bs i) ∧ tot (forestSt f bs i) ≤ 2 ^ (bs.take i).flatten.length
  | 0, _ => ⟨fun s hs => by
      simp [forestSt] at hs
      subst hs
      exact ⟨fun b hb => by simp at hb, fun b hb => by simp at hb, by simp, by simp⟩, by simp [forestSt, tot], by simp [forestSt, tot]⟩
  | i + 1, hi => by
    have hl : i < bs.length := by omega
    obtain ⟨h1, h2, h3⟩ := forestSt_ok h i (by omega)
    obtain ⟨h4, h5, h6⟩ := h _ (List.getElem_mem hl)
    have h7 := timesS_ok h1 h4
    rw [forestSt_succ hl, flat_take_len hl]
    refine ⟨h7.1, by rw [h7.2]; exact Int.mul_nonneg h2 h5, ?_⟩
    rw [h7.2, Int.pow_add]
    exact Int.mul_le_mul h3 h6 h5 (by have := Int.le_trans h2 h3; exact this)
theorem branchesS_ok {t : List Int} (ht : Lv t) (h8 : t.length ≤ 8) : (∀ b ∈ branchesS t, Lv b ∧ b.length < t.length) ∧ (branchesS t).flatten.length + 1 = t.length := by
  have hc := canonL_ok 8 ht h8 h8
  have hbr := branches_ok hc.1
  have hcnt := branchesL_count hc.1
  refine ⟨fun b hb => ?_, ?_⟩
  · have := hbr.2 b ((sortTS_perm _).mem_iff.1 hb)
    exact ⟨this.1, by omega⟩
  · unfold branchesS; rw [sortTS_flat]; omega
def putAll (l : List SplD) (out : List SplD) : List SplD := l.foldl (fun out x => putS out (rootS x)) out
theorem putAll_succ {l out : List SplD} {i : Nat} (h : i < l.length) : putAll (l.take (i + 1)) out = putS (putAll (l.take i) out) (rootS l[i]) := by
  unfold putAll; rw [List.take_succ_eq_append_getElem h, List.foldl_append]; rfl
theorem rootS_ok {n : Nat} (hn : n ≤ 7) {s : SplD} (h : POk n s) : POk (n + 1) (rootS s) := by
  have hr := rootL_lv h.t
  have hl := rootL_length s.2.1
  have h1 := h.n
  have hc := canonL_ok 8 hr (by omega) (by omega)
  refine ⟨h.c, fun b hb => ?_, ?_, h.pos⟩
  · simp [rootS] at hb; subst hb; exact hc.1
  · simp only [rootS, List.flatten_cons, List.flatten_nil, List.append_nil]; omega
theorem putAll_ok {n : Nat} (hn : n ≤ 7) : ∀ (l out : List SplD), (∀ s ∈ l, POk n s) → (∀ s ∈ out, POk (n + 1) s) → (∀ s ∈ putAll l out, POk (n + 1) s) ∧ tot (putAll l out) = tot out + tot l
  | [], out, _, ho => ⟨ho, by simp [putAll, tot]⟩
  | x :: l, out, hl, ho => by
    have h1 := put_ok ho (rootS_ok hn (hl x (by simp)))
    have h2 := putAll_ok hn l (putS out (rootS x)) (fun s hs => hl s (by simp [hs])) h1
    refine ⟨h2.1, ?_⟩
    show tot (putAll l (putS out (rootS x))) = _
    rw [h2.2, tot_put, tot]
    show tot out + x.2.2 + tot l = _
    omega
theorem treeS_succ (f : Nat) (t : List Int) : treeS (f + 1) t = putAll (forestSt f (branchesS t) (branchesS t).length) [([t], [], 1)] := by
  unfold forestSt; rw [List.take_length]; rfl
theorem treeS_ok (f : Nat) : ∀ {t : List Int}, Lv t → t.length ≤ f → t.length ≤ 8 → (∀ s ∈ treeS f t, POk t.length s) ∧ 0 ≤ tot (treeS f t) ∧ tot (treeS f t) ≤ 2 ^ t.length := by
  induction f with
  | zero => intro t ht hn; exact absurd ht.pos (by omega)
  | succ f ih =>
  intro t ht hn h8
  obtain ⟨hbr, hcnt⟩ := branchesS_ok ht h8
  have hfo := forestSt_ok (f := f) (bs := branchesS t) (fun b hb => by have := hbr b hb; exact ih this.1 (by omega) (by omega)) _ (Nat.le_refl _)
  rw [List.take_length] at hfo
  have h0 : ∀ s ∈ [(([t], [], 1) : SplD)], POk ((branchesS t).flatten.length + 1) s := fun s hs => by
    simp at hs; subst hs
    exact ⟨fun b hb => by simp at hb; subst hb; exact ht, fun b hb => by simp at hb, by show [t].flatten.length + ([] : For).flatten.length = _; rw [show [t].flatten = t from by simp, List.flatten_nil, List.length_nil]; omega, by simp⟩
  have hp := putAll_ok (by omega) _ _ hfo.1 h0
  rw [treeS_succ]
  rw [hcnt] at hp
  have h1 : tot [(([t], [], 1) : SplD)] = 1 := rfl
  have h2 : (2 : Int) ^ t.length = 2 ^ (branchesS t).flatten.length * 2 := by rw [← hcnt, Int.pow_succ]
  have h3 : (1 : Int) ≤ 2 ^ (branchesS t).flatten.length := by
    have := Nat.one_le_two_pow (n := (branchesS t).flatten.length)
    have h4 : ((2 ^ (branchesS t).flatten.length : Nat) : Int) = 2 ^ (branchesS t).flatten.length := by simp
    omega
  refine ⟨hp.1, by rw [hp.2, h1]; omega, ?_⟩
  rw [hp.2, h1, h2]
  have := hfo.2.2
  omega
theorem pow_256 {n : Nat} (h : n ≤ 8) : (2 : Int) ^ n ≤ 256 := by
  have h1 : 2 ^ n ≤ 2 ^ 8 := Nat.pow_le_pow_right (by omega) h
  have h2 : ((2 ^ n : Nat) : Int) = 2 ^ n := by simp
  omega
end Go.Rk
