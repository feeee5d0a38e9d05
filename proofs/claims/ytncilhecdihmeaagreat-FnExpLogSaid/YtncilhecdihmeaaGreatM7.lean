/- Drawn flows and roots; codes of exponentials and logarithms; IsInfinitesimal. -/
import Derived.Test.YtncilhecdihmeaaGreatM4
import Derived.Test.YtncilhecdihmeaaGreatM2
import Derived.Test.YtncilhecdihmeaaGreatG13
import Derived.Test.YtncilhecdihmeaaGreatG28
set_option maxRecDepth 8000
namespace Go.Rk
open Go.Fw Go.Proofs
theorem flow_ok {b : List Int} {s : Int} (hb : Inf b) (hs : isN s = true) : flowMap b s = (expL (scaledL b s), 0) := by
  unfold flowMap; rw [if_pos hb.map, if_pos hs, if_neg (by rw [hb.first]; simp)]
theorem flow_zero {b : List Int} {s : Int} (h : (flowMap b s).2 = 0) : Inf b ∧ isN s = true := by
  unfold flowMap at h
  split at h
  · rename_i h1
    split at h
    · rename_i h2
      split at h
      · simp at h
      · rename_i h3; exact ⟨⟨h1, by omega⟩, h2⟩
    · simp at h
  · simp at h
theorem flow_bad {b : List Int} {s : Int} (h : (flowMap b s).2 ≠ 0) : (flowMap b s).1 = [] := by
  unfold flowMap at h ⊢
  split
  · rename_i h1
    rw [if_pos h1] at h
    split
    · rename_i h2
      rw [if_pos h2] at h
      split
      · rfl
      · rename_i h3; rw [if_neg h3] at h; exact absurd rfl h
    · rfl
  · rfl
theorem root_ok {a : List Int} {k : Int} (ha : Chr a) (h1 : 1 ≤ k ∧ k ≤ 100) : rootOfMap a k = (expL (scaledL (logL a) (powN (nm k) 10005)), 0) := by
  unfold rootOfMap; rw [if_pos ha.map, if_pos h1, if_neg (by rw [ha.first]; simp)]
theorem root_zero {a : List Int} {k : Int} (h : (rootOfMap a k).2 = 0) : Chr a ∧ 1 ≤ k ∧ k ≤ 100 := by
  unfold rootOfMap at h
  split at h
  · rename_i h1
    split at h
    · rename_i h2
      split at h
      · simp at h
      · rename_i h3; exact ⟨⟨h1, by omega⟩, h2⟩
    · simp at h
  · simp at h
theorem root_bad {a : List Int} {k : Int} (h : (rootOfMap a k).2 ≠ 0) : (rootOfMap a k).1 = [] := by
  unfold rootOfMap at h ⊢
  split
  · rename_i h1
    rw [if_pos h1] at h
    split
    · rename_i h2
      rw [if_pos h2] at h
      split
      · rfl
      · rename_i h3; rw [if_neg h3] at h; exact absurd rfl h
    · rfl
  · rfl
theorem exp_ok {b : List Int} (hb : Inf b) : expMap b = (expL b, 0) := by unfold expMap; rw [if_pos (hb.two hb)]
theorem log_ok {a : List Int} (ha : Chr a) : logMap a = (logL a, 0) := by unfold logMap; rw [if_pos ha.code]
theorem expL_chr (b : List Int) : Chr (expL b) := ⟨expL_map b, expL_first b⟩
theorem logL_inf {a : List Int} (ha : a.length = 38) : Inf (logL a) := ⟨logL_map ha, logL_first ha⟩
theorem powZ_pos {a : List Int} {k : Int} (h : 1 ≤ k) : powZ a k = powMapL a k.toNat := by unfold powZ; rw [if_neg (by omega)]
end Go.Rk
namespace Go.Proofs
open Go Go.Fw Go.RowKit Go.Rk
theorem IsInfinitesimal_rd {w : World} {v : Value} {a : List Int} (h : RD w v a) (hc : Inf a) : Does Tryz.prog 69 [v] w fun r w' => r = .bool true ∧ Still w w' := by
  obtain ⟨lo, hi, h⟩ := h
  have hl := hc.len
  refine Does.enter Tryz.func69 Tryz.ntmps69 rfl (by rfl) ?_
  repeat' (first|refine X.O ?_|refine X.A ?_|refine X.B ?_|refine X.C ?_|refine X.D ?_|refine X.E ?_|refine X.F ?_|refine X.G ?_|refine X.H ?_|refine X.I ?_|fail)
  refine WL.call (IsMap_any h) ?_
  rintro _ w1 ⟨rfl, hs1⟩
  rw [hc.map]
  have hg := getD_get (a := a) (by omega)
  rw [hc.first] at hg
  repeat' (first|refine X.O ?_|refine X.A ?_|refine X.B ?_|refine X.C ?_|refine X.D ?_|refine X.E ?_|refine X.F ?_|refine X.G ?_|refine X.H ?_|refine X.I ?_|fail)
  refine WL.ixload (j := 0) (h.still RI.stable hs1) (List.getElem?_eq_getElem (by omega)) ?_
  rintro p _ rfl
  repeat' (first|refine X.O ?_|refine X.A ?_|refine X.B ?_|refine X.C ?_|refine X.D ?_|refine X.E ?_|refine X.F ?_|refine X.G ?_|refine X.H ?_|refine X.I ?_|fail)
  refine ⟨_, ret1 rfl (by rfl), ?_⟩
  exact ⟨by rw [← hg]; rfl, hs1⟩
theorem DrawFlowMap_any {lo hi : Nat} {w : World} {v : Value} {bs : List Int} (h : IU lo hi w v bs) (hn : bs.length ≤ 4096) :
    Does Tryz.prog 67 [v] w fun r w' => (∃ v5 xs s, r = .tuple #[v5, .int .i64 s] ∧ IS w.heap.size w'.heap.size w' v5 xs) ∧ Below w.heap.size w w' := by
  refine Does.enter Tryz.func67 Tryz.ntmps67 rfl (by rfl) ?_
  repeat' (first|refine X.O ?_|refine X.A ?_|refine X.B ?_|refine X.C ?_|refine X.D ?_|refine X.E ?_|refine X.F ?_|refine X.G ?_|refine X.H ?_|refine X.I ?_|fail)
  refine WL.call (l01From_any h hn) ?_
  rintro _ w1 ⟨rfl, hsrc1, hc1⟩
  have hz1 := hc1.size
  have hlt1 := hsrc1.lt
  have hbl1 : Below w.heap.size w w1 := hc1.below (by omega) (Or.inr (Nat.le_refl _))
  obtain ⟨sb, hsb⟩ : ∃ sb, w.heap.size = sb := ⟨_, rfl⟩
  rw [hsb] at hsrc1 hlt1 ⊢
  have fin : ∀ wz, Drew sb w1 wz → Below sb w wz := fun wz hd => by
    rw [hsb] at hbl1
    exact hbl1.trans (hd.chg.below (by omega) (Or.inl (Nat.le_refl _)))
  repeat' (first|refine X.O ?_|refine X.A ?_|refine X.B ?_|refine X.C ?_|refine X.D ?_|refine X.E ?_|refine X.F ?_|refine X.G ?_|refine X.H ?_|refine X.I ?_|fail)
  refine WL.call (l08Draw_any hsrc1) ?_
  rintro v5 w2 ⟨⟨xs, hx⟩, hd2⟩
  have hz2 := hd2.chg.size
  have hx2 := hx.toIS (lo' := w1.heap.size) (Nat.le_refl _)
  repeat' (first|refine X.O ?_|refine X.A ?_|refine X.B ?_|refine X.C ?_|refine X.D ?_|refine X.E ?_|refine X.F ?_|refine X.G ?_|refine X.H ?_|refine X.I ?_|fail)
  refine WL.call (l01Number_any hd2.src) ?_
  rintro _ w3 ⟨⟨k, rfl, _, _⟩, hd3⟩
  have hz3 := hd3.chg.size
  have hx3 := RI.chg hx2 hd3.chg (Or.inr (by omega))
  have hd13 := hd2.trans hd3
  repeat' (first|refine X.O ?_|refine X.A ?_|refine X.B ?_|refine X.C ?_|refine X.D ?_|refine X.E ?_|refine X.F ?_|refine X.G ?_|refine X.H ?_|refine X.I ?_|fail)
  refine WL.call (l01Number_any hd13.src) ?_
  rintro _ w4 ⟨⟨k2, rfl, _, _⟩, hd4⟩
  have hz4 := hd4.chg.size
  have hx4 := RI.chg hx3 hd4.chg (Or.inr (by omega))
  have hd14 := hd13.trans hd4
  repeat' (first|refine X.O ?_|refine X.A ?_|refine X.B ?_|refine X.C ?_|refine X.D ?_|refine X.E ?_|refine X.F ?_|refine X.G ?_|refine X.H ?_|refine X.I ?_|fail)
  refine WL.step (o_lit (us := Ints [k, k2, 0, 1, 10006, -1, 10007]) (by rfl) (by rfl) rfl (by decide) (fun u hu => by
    obtain ⟨z, _, rfl⟩ := List.mem_map.1 hu
    rfl) ?_)
  intro v6 w5 hown5 hbl5 hz5 _
  have hd15 := hd14.into hbl5 (by omega) (by omega)
  have hx5 := hx4.below RI.stable hbl5 (by omega)
  refine WL.call (l01Pick_any hd15.src (hown5.toIS (Nat.le_refl _)) (by omega) (by simp)) ?_
  rintro _ w6 ⟨⟨s, rfl, _⟩, hd6⟩
  have hz6 := hd6.chg.size
  have hx6 := RI.chg hx5 hd6.chg (Or.inr (by omega))
  repeat' (first|refine X.O ?_|refine X.A ?_|refine X.B ?_|refine X.C ?_|refine X.D ?_|refine X.E ?_|refine X.F ?_|refine X.G ?_|refine X.H ?_|refine X.I ?_|fail)
  refine ⟨_, ret2 rfl (by rfl) (by rfl), ?_⟩
  exact ⟨⟨_, _, _, rfl, hx6.wide RI.stable (by omega) (by omega) (Nat.le_refl _)⟩, fin _ (hd15.trans hd6)⟩
theorem DrawRootOfMap_any {lo hi : Nat} {w : World} {v : Value} {bs : List Int} (h : IU lo hi w v bs) (hn : bs.length ≤ 4096) :
    Does Tryz.prog 68 [v] w fun r w' => (∃ v5 xs s, r = .tuple #[v5, .int .i64 s] ∧ IS w.heap.size w'.heap.size w' v5 xs) ∧ Below w.heap.size w w' := by
  refine Does.enter Tryz.func68 Tryz.ntmps68 rfl (by rfl) ?_
  repeat' (first|refine X.O ?_|refine X.A ?_|refine X.B ?_|refine X.C ?_|refine X.D ?_|refine X.E ?_|refine X.F ?_|refine X.G ?_|refine X.H ?_|refine X.I ?_|fail)
  refine WL.call (l01From_any h hn) ?_
  rintro _ w1 ⟨rfl, hsrc1, hc1⟩
  have hz1 := hc1.size
  have hlt1 := hsrc1.lt
  have hbl1 : Below w.heap.size w w1 := hc1.below (by omega) (Or.inr (Nat.le_refl _))
  obtain ⟨sb, hsb⟩ : ∃ sb, w.heap.size = sb := ⟨_, rfl⟩
  rw [hsb] at hsrc1 hlt1 ⊢
  have fin : ∀ wz, Drew sb w1 wz → Below sb w wz := fun wz hd => by
    rw [hsb] at hbl1
    exact hbl1.trans (hd.chg.below (by omega) (Or.inl (Nat.le_refl _)))
  repeat' (first|refine X.O ?_|refine X.A ?_|refine X.B ?_|refine X.C ?_|refine X.D ?_|refine X.E ?_|refine X.F ?_|refine X.G ?_|refine X.H ?_|refine X.I ?_|fail)
  refine WL.call (l07DrawAny_own hsrc1) ?_
  rintro v5 w2 ⟨⟨xs, hx⟩, hd2⟩
  have hz2 := hd2.chg.size
  have hx2 := hx.toIS (lo' := w1.heap.size) (Nat.le_refl _)
  repeat' (first|refine X.O ?_|refine X.A ?_|refine X.B ?_|refine X.C ?_|refine X.D ?_|refine X.E ?_|refine X.F ?_|refine X.G ?_|refine X.H ?_|refine X.I ?_|fail)
  refine WL.step (o_lit (us := Ints [1, 2, 3, 4, 7, 100, 0, -1, 101]) (by rfl) (by rfl) rfl (by decide) (fun u hu => by
    obtain ⟨z, _, rfl⟩ := List.mem_map.1 hu
    rfl) ?_)
  intro v6 w5 hown5 hbl5 hz5 _
  have hd15 := hd2.into hbl5 (by omega) (by omega)
  have hx5 := hx2.below RI.stable hbl5 (by omega)
  refine WL.call (l01Pick_any hd15.src (hown5.toIS (Nat.le_refl _)) (by omega) (by simp)) ?_
  rintro _ w6 ⟨⟨s, rfl, _⟩, hd6⟩
  have hz6 := hd6.chg.size
  have hx6 := RI.chg hx5 hd6.chg (Or.inr (by omega))
  repeat' (first|refine X.O ?_|refine X.A ?_|refine X.B ?_|refine X.C ?_|refine X.D ?_|refine X.E ?_|refine X.F ?_|refine X.G ?_|refine X.H ?_|refine X.I ?_|fail)
  refine ⟨_, ret2 rfl (by rfl) (by rfl), ?_⟩
  exact ⟨⟨_, _, _, rfl, hx6.wide RI.stable (by omega) (by omega) (Nat.le_refl _)⟩, fin _ (hd15.trans hd6)⟩
end Go.Proofs
