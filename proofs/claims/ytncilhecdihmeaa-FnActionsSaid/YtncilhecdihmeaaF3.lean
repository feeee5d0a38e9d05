/- All cuts of a tree, one after the other: splitTree. -/
import Derived.Test.YtncilhecdihmeaaF1
import Derived.Test.YtncilhecdihmeaaA34
import Derived.Test.YtncilhecdihmeaaK3
set_option maxRecDepth 8000
namespace Go.Rk
open Go.Fw Go.Proofs
theorem put_stepG {α : Type} {bs : List α} {k : α → α} {i : Nat} (h : i < bs.length) : (((bs.map k).take i) ++ bs.drop i).set i (k bs[i]) = ((bs.map k).take (i + 1)) ++ bs.drop (i + 1) := by
  have hl : ((bs.map k).take i).length = i := by rw [List.length_take, List.length_map]; omega
  have hm : i < (bs.map k).length := by rw [List.length_map]; exact h
  rw [List.set_append_right _ _ (by omega), hl, Nat.sub_self, List.drop_eq_getElem_cons h, List.set_cons_zero, List.take_succ_eq_append_getElem hm, List.getElem_map]
  simp
theorem mid_get {α : Type} {bs : List α} {k : α → α} {i : Nat} (h : i < bs.length) : (((bs.map k).take i) ++ bs.drop i)[i]? = some bs[i] := by
  have hl : ((bs.map k).take i).length = i := by rw [List.length_take, List.length_map]; omega
  rw [List.getElem?_append_right (by omega), hl, Nat.sub_self, List.drop_eq_getElem_cons h]
  rfl
end Go.Rk
namespace Go.Fw
open Go Go.RowKit
theorem Roo.two {e e2 : TypeId} {w : World} {u1 u2 : Value} {f1 f2 : List (List Int)} (h1 : Roo e e2 w u1 f1) (h2 : Roo e e2 w u2 f2) :
    ∀ (i : Nat) u f, [u1, u2][i]? = some u → [f1, f2][i]? = some f → Roo e e2 w u f := fun i u f hu hf => by
  match i, hu, hf with
  | 0, hu, hf => simp at hu hf; subst hu hf; exact h1
  | 1, hu, hf => simp at hu hf; subst hu hf; exact h2
theorem Roo.single {e e2 lo lo' : Nat} {w : World} {v u : Value} {t : List Int} (h : Own lo e w v [u]) (hu : Own lo' e2 w u (Ints t)) : Roo e e2 w v [t] :=
  ⟨lo, [u], h, rfl, fun i x xs hx ht => by
    match i, hx, ht with
    | 0, hx, ht => simp at hx ht; subst hx ht; exact ⟨lo', hu⟩⟩
end Go.Fw
namespace Go.Proofs
open Go Go.Fw Go.RowKit Go.Rk
theorem SplA.set {w : World} {ts : List Tri} {xs : List Spl} {n : Int} (h : SplA w ts xs n) {i : Nat} {t : Tri} {x : Spl} (hr : SplR w t x n) : SplA w (ts.set i t) (xs.set i x) n := by
  refine ⟨by simp [h.1], fun j u y hu hy => ?_⟩
  rw [List.getElem?_set] at hu hy
  split at hu
  · rename_i e
    rw [if_pos e] at hy
    split at hu
    · rename_i hl
      rw [if_pos (by rw [← h.1]; exact hl)] at hy
      simp only [Option.some.injEq] at hu hy
      subst hu hy
      exact hr
    · cases hu
  · rename_i e
    rw [if_neg e] at hy
    exact h.2 j u y hu hy
set_option maxHeartbeats 4000000 in
theorem splitTree_any (f : Nat) : ∀ {lo hi : Nat} {w : World} {v : Value} {t : List Int}, IS lo hi w v t → Lv t → t.length ≤ f → t.length ≤ 8 →
    Does Try.prog 75 [v] w fun r w' => (∃ ts, Own3 w.heap.size 88 w' r ts ∧ SplA w' ts (splitF f t) 0) ∧ Below w.heap.size w w' := by
  induction f with
  | zero => intro _ _ _ _ t _ ht hn; exact absurd ht.pos (by omega)
  | succ f ih =>
  intro lo hi w v t h ht hn h8
  have hz := h.hi_le
  have hbr := branches_ok ht
  have hcnt := branchesL_count ht
  have hsb : ∀ b ∈ branchesL t, (∀ s ∈ splitF f b, SOk b.length s) ∧ (splitF f b).length ≤ 2 ^ b.length := fun b hb => splitF_ok f (hbr.2 b hb).1 (by have := (hbr.2 b hb).2; omega) (by have := (hbr.2 b hb).2; omega)
  have hfo := foldS_ok (fun b hb => (hsb b hb).1)
  have hfl := foldS_len (fun b hb => (hsb b hb).2)
  have hsp := splitF_succ f t
  obtain ⟨bs, hbs⟩ : ∃ bs, branchesL t = bs := ⟨_, rfl⟩
  rw [hbs] at hbr hcnt hsb hfo hfl hsp
  have htk : ∀ i, (bs.take i).flatten.length ≤ 7 := fun i => by have := flat_take_le bs i; omega
  have hp : ∀ i, i ≤ bs.length → (foldS f bs i).length ≤ 128 := fun i hi => Nat.le_trans (hfl i hi) (Nat.pow_le_pow_right (by omega) (htk i))
  have hbl : bs.length ≤ 7 := by have := Lv.le_flat (f := bs) (fun b hb => (hbr.2 b hb).1); omega
  refine Does.enter Try.func75 Try.ntmps75 rfl (by rfl) ?_
  repeat' (first|refine X.O ?_|refine X.A ?_|refine X.B ?_|refine X.C ?_|refine X.D ?_|refine X.E ?_|refine X.F ?_|refine X.G ?_|refine X.H ?_|refine X.I ?_|fail)
  refine WL.step (o_build (us := []) (cells := [.slice none 0 0, .slice none 0 0, .int .i64 0]) (by rfl) (by rfl) ?_)
  refine WL.step (o_lit31 (tr := (.slice none 0 0, .slice none 0 0, .int .i64 0)) (by rfl) ?_)
  intro v1 w1 hown1 hbl1 hz1
  have hA1 : SplA w1 [(.slice none 0 0, .slice none 0 0, .int .i64 0)] [([], [])] 0 := (SplA.nil w1 0).snoc ⟨Roo.nil _ _ _, Roo.nil _ _ _, rfl⟩
  repeat' (first|refine X.O ?_|refine X.A ?_|refine X.B ?_|refine X.C ?_|refine X.D ?_|refine X.E ?_|refine X.F ?_|refine X.G ?_|refine X.H ?_|refine X.I ?_|fail)
  refine WL.call (branchesOf_any (h.below RI.stable hbl1 hz) ht (by omega)) ?_
  rintro v2 w2 ⟨⟨vs2, o2⟩, hbl2⟩
  have hz2 := hbl2.size
  rw [hbs] at o2
  have hR2 := o2.rd
  obtain ⟨a2, c2, hv2⟩ := hR2.shape
  subst hv2
  repeat' (first|refine X.O ?_|refine X.A ?_|refine X.B ?_|refine X.C ?_|refine X.D ?_|refine X.E ?_|refine X.F ?_|refine X.G ?_|refine X.H ?_|refine X.I ?_|fail)
  refine WP.loop (fun (s : Nat × Value) => [(0, v), (3, s.2), (16, .slice a2 bs.length c2), (17, .int .i64 (bs.length : Nat)), (18, .int .i64 (s.1 : Nat))])
    (fun s w3 => s.1 ≤ bs.length ∧ (∃ ts, Own3 w.heap.size 88 w3 s.2 ts ∧ SplA w3 ts (foldS f bs s.1) 0) ∧ Below w2.heap.size w2 w3)
    (fun s => bs.length - s.1) (0, v1) ⟨rfl, rfl, rfl, rfl, rfl, trivial⟩ ⟨by dsimp only; omega, ⟨_, hown1.below hbl2 (by omega), hA1.tsame (TSame.below (Below.mono hbl2 (by omega)))⟩, Below.refl _ _⟩ ?_
  rintro ⟨i, vl⟩ w3 ⟨hi1, ⟨tl, ol, hAl⟩, hbl3⟩
  dsimp only at hi1 ol hAl ⊢
  have hz3 := hbl3.size
  obtain ⟨al, cl, hvl, _⟩ := ol.shape
  have hLl := hp i hi1
  have hLo := hfo i hi1
  repeat' (first|refine X.O ?_|refine X.A ?_|refine X.B ?_|refine X.C ?_|refine X.D ?_|refine X.E ?_|refine X.F ?_|refine X.G ?_|refine X.H ?_|refine X.I ?_|fail)
  first|refine X.J (fun _ => ?_) (fun _ => ?_)|refine X.L (fun _ => ?_) (fun _ => ?_)|refine X.M (fun _ => ?_) (fun _ => ?_)|refine X.R (fun _ => ?_) (fun _ => ?_)|fail
  · rename_i hlt
    have hli : i < bs.length := by omega
    have hbi := hbr.2 _ (List.getElem_mem hli)
    have hsi := hsb _ (List.getElem_mem hli)
    have hfs := foldS_succ (f := f) hli
    have hpi := hp (i + 1) (by omega)
    obtain ⟨L, hL⟩ : ∃ L, foldS f bs i = L := ⟨_, rfl⟩
    obtain ⟨C, hC⟩ : ∃ C, splitF f bs[i] = C := ⟨_, rfl⟩
    rw [hL] at hAl hLl hLo hfs
    rw [hC] at hsi hfs
    rw [hfs] at hpi
    have hCl : C.length ≤ 128 := Nat.le_trans hsi.2 (Nat.pow_le_pow_right (by omega) (by omega : bs[i].length ≤ 7))
    have htll : tl.length = L.length := hAl.1
    repeat' (first|refine X.O ?_|refine X.A ?_|refine X.B ?_|refine X.C ?_|refine X.D ?_|refine X.E ?_|refine X.F ?_|refine X.G ?_|refine X.H ?_|refine X.I ?_|fail)
    refine WL.ixload (j := i) (hR2.below IS.stable hbl3 (Nat.le_refl _)) (List.getElem?_eq_getElem hli) ?_
    intro p1 u hu
    repeat' (first|refine X.O ?_|refine X.A ?_|refine X.B ?_|refine X.C ?_|refine X.D ?_|refine X.E ?_|refine X.F ?_|refine X.G ?_|refine X.H ?_|refine X.I ?_|fail)
    refine WL.step (o_lit30 ?_)
    intro v4 w4 hown4 hbl4 hz4
    have hu4 := hu.below RI.stable hbl4 (by omega)
    have ol4 := ol.below hbl4 (Nat.le_refl _)
    have hAl4 := hAl.tsame (TSame.below hbl4)
    rw [hvl]
    repeat' (first|refine X.O ?_|refine X.A ?_|refine X.B ?_|refine X.C ?_|refine X.D ?_|refine X.E ?_|refine X.F ?_|refine X.G ?_|refine X.H ?_|refine X.I ?_|fail)
    refine WL.step (o_len3 (by rfl) ?_)
    repeat' (first|refine X.O ?_|refine X.A ?_|refine X.B ?_|refine X.C ?_|refine X.D ?_|refine X.E ?_|refine X.F ?_|refine X.G ?_|refine X.H ?_|refine X.I ?_|fail)
    refine WP.loop (fun (s : Nat × Value) => [(0, v), (5, u), (6, s.2), (16, .slice a2 bs.length c2), (17, .int .i64 (bs.length : Nat)), (18, .int .i64 (i : Nat)), (23, .slice al tl.length cl), (24, .int .i64 (tl.length : Nat)), (25, .int .i64 (s.1 : Nat))])
      (fun s w5 => s.1 ≤ L.length ∧ (∃ ts, Own3 w3.heap.size 88 w5 s.2 ts ∧ SplA w5 ts (crossL (L.take s.1) C) 0) ∧ Below w3.heap.size w3 w5 ∧ w4.heap.size ≤ w5.heap.size)
      (fun s => L.length - s.1) (0, v4) ⟨rfl, rfl, rfl, rfl, rfl, rfl, rfl, rfl, rfl, trivial⟩ ⟨by dsimp only; omega, ⟨[], hown4, by rw [List.take_zero]; exact SplA.nil _ _⟩, hbl4, Nat.le_refl _⟩ ?_
    rintro ⟨j, vn⟩ w5 ⟨hj1, ⟨tn, on, hAn⟩, hbl5, hz45⟩
    dsimp only at hj1 on hAn ⊢
    have hz5 := hbl5.size
    rw [hvl] at ol
    have ol5 := ol.below hbl5 (Nat.le_refl _)
    have hAl5 := hAl.tsame (TSame.below hbl5)
    repeat' (first|refine X.O ?_|refine X.A ?_|refine X.B ?_|refine X.C ?_|refine X.D ?_|refine X.E ?_|refine X.F ?_|refine X.G ?_|refine X.H ?_|refine X.I ?_|fail)
    first|refine X.J (fun _ => ?_) (fun _ => ?_)|refine X.L (fun _ => ?_) (fun _ => ?_)|refine X.M (fun _ => ?_) (fun _ => ?_)|refine X.R (fun _ => ?_) (fun _ => ?_)|fail
    · rename_i hltj
      have hlj : j < L.length := by omega
      have hljt : j < tl.length := by omega
      have hsj := hAl5.2 j _ _ (List.getElem?_eq_getElem hljt) (List.getElem?_eq_getElem hlj)
      have hcr : crossL (L.take (j + 1)) C = crossL (L.take j) C ++ C.map fun c => (L[j].1 ++ c.1, L[j].2 ++ c.2) := by rw [List.take_succ_eq_append_getElem hlj, crossL_snoc]
      have hokj := hLo _ (List.getElem_mem hlj)
      repeat' (first|refine X.O ?_|refine X.A ?_|refine X.B ?_|refine X.C ?_|refine X.D ?_|refine X.E ?_|refine X.F ?_|refine X.G ?_|refine X.H ?_|refine X.I ?_|fail)
      refine WL.ixload3 (j := j) ol5 (List.getElem?_eq_getElem hljt) ?_
      intro p2
      obtain ⟨⟨sc, st, sn⟩, hsE⟩ : ∃ s, tl[j] = s := ⟨_, rfl⟩
      rw [hsE] at hsj ⊢
      obtain ⟨⟨sC, sT⟩, hxE⟩ : ∃ s, L[j] = s := ⟨_, rfl⟩
      rw [hxE] at hsj hcr hokj
      have hsn : sn = .int .i64 0 := hsj.2.2
      subst hsn
      refine WL.var (vs := [sc, st, .int .i64 0]) (fun _ => by rfl) (by rfl) (fun x hx => by
        have h1 := hsj.one
        simp only [List.mem_cons, List.not_mem_nil, or_false] at hx
        rcases hx with rfl | rfl | rfl
        · exact h1.1
        · exact h1.2.1
        · rfl) ?_
      intro w6 hb8 hbl6 hz6
      have hbl36 : Below w3.heap.size w3 w6 := hbl5.trans (Below.mono hbl6 (by omega))
      have hu6 := hu.below RI.stable (Below.mono hbl36 (by omega) : Below w2.heap.size w3 w6) (by omega)
      repeat' (first|refine X.O ?_|refine X.A ?_|refine X.B ?_|refine X.C ?_|refine X.D ?_|refine X.E ?_|refine X.F ?_|refine X.G ?_|refine X.H ?_|refine X.I ?_|fail)
      refine WL.call (ih hu6 hbi.1 (by omega) (by omega)) ?_
      rintro vC w7 ⟨⟨tC, oC, hAC⟩, hbl7⟩
      have hz7 := hbl7.size
      rw [hC] at hAC
      have htcl := hAC.1
      have hts67 : TSame 22 2 w5 w7 := (TSame.below hbl6).trans (TSame.below hbl7)
      have hsj7 := hsj.tsame hts67
      have hb87 := hb8.below hbl7 (by omega)
      have on7 := (on.below hbl6 (Nat.le_refl _)).below hbl7 (by omega)
      have hAn7 := hAn.tsame hts67
      obtain ⟨aC, cC, hvC, _⟩ := oC.shape
      subst hvC
      repeat' (first|refine X.O ?_|refine X.A ?_|refine X.B ?_|refine X.C ?_|refine X.D ?_|refine X.E ?_|refine X.F ?_|refine X.G ?_|refine X.H ?_|refine X.I ?_|fail)
      refine WL.step (o_len3 (by rfl) ?_)
      repeat' (first|refine X.O ?_|refine X.A ?_|refine X.B ?_|refine X.C ?_|refine X.D ?_|refine X.E ?_|refine X.F ?_|refine X.G ?_|refine X.H ?_|refine X.I ?_|fail)
      have hbl37 : Below w3.heap.size w3 w7 := hbl36.trans (Below.mono hbl7 (by omega))
      refine WP.loop (fun (s : Nat × Value) => [(0, v), (5, u), (6, s.2), (8, .pointer (some ⟨w5.heap.size, 0, none⟩)), (16, .slice a2 bs.length c2), (17, .int .i64 (bs.length : Nat)), (18, .int .i64 (i : Nat)), (23, .slice al tl.length cl), (24, .int .i64 (tl.length : Nat)), (25, .int .i64 (j : Nat)), (30, .slice aC tC.length cC), (31, .int .i64 (tC.length : Nat)), (32, .int .i64 (s.1 : Nat))])
        (fun s w8 => s.1 ≤ C.length ∧ (∃ ts, Own3 w3.heap.size 88 w8 s.2 ts ∧ SplA w8 ts (crossL (L.take j) C ++ (C.take s.1).map fun c => (sC ++ c.1, sT ++ c.2)) 0) ∧ (∀ k, s.2.ownBlock = some k → k < w5.heap.size ∨ w7.heap.size ≤ k) ∧ Same w5.heap.size w7.heap.size w7 w8 ∧ TSame 22 2 w7 w8 ∧ Below w3.heap.size w3 w8)
        (fun s => C.length - s.1) (0, vn) ⟨rfl, rfl, rfl, rfl, rfl, rfl, rfl, rfl, rfl, rfl, rfl, rfl, rfl, trivial⟩ ⟨by dsimp only; omega, ⟨_, on7, by simpa using hAn7⟩, fun k hk => Or.inl (on.block k hk).2, fun _ _ _ => rfl, TSame.refl _ _ _, hbl37⟩ ?_
      rintro ⟨k, vm⟩ w8 ⟨hk1, ⟨tm, om, hAm⟩, hbm, hsm8, hts8, hbl8⟩
      dsimp only at hk1 om hAm hbm ⊢
      have hz8 := hts8.size
      have hz38 := hbl8.size
      have hb88 := hb87.keep (hsm8 _ (Nat.le_refl _) (by omega))
      have oC8 : Own3 w6.heap.size 88 w8 (.slice aC tC.length cC) tC := oC.keep fun b hb => hsm8 b (by have := (oC.block b hb).1; omega) (oC.block b hb).2
      have hAC8 := hAC.tsame hts8
      have hsj8 := hsj7.tsame hts8
      repeat' (first|refine X.O ?_|refine X.A ?_|refine X.B ?_|refine X.C ?_|refine X.D ?_|refine X.E ?_|refine X.F ?_|refine X.G ?_|refine X.H ?_|refine X.I ?_|fail)
      first|refine X.J (fun _ => ?_) (fun _ => ?_)|refine X.L (fun _ => ?_) (fun _ => ?_)|refine X.M (fun _ => ?_) (fun _ => ?_)|refine X.R (fun _ => ?_) (fun _ => ?_)|fail
      · rename_i hltk
        have hlk : k < C.length := by omega
        have hlkt : k < tC.length := by omega
        have hck := hAC8.2 k _ _ (List.getElem?_eq_getElem hlkt) (List.getElem?_eq_getElem hlk)
        have hokk := hsi.1 _ (List.getElem_mem hlk)
        have hml : tm.length ≤ 128 * 128 + 128 := by
          rw [hAm.1, List.length_append, crossL_length, List.length_map, List.length_take, List.length_take]
          have : min j L.length * C.length ≤ 128 * 128 := Nat.mul_le_mul (by omega) hCl
          omega
        repeat' (first|refine X.O ?_|refine X.A ?_|refine X.B ?_|refine X.C ?_|refine X.D ?_|refine X.E ?_|refine X.F ?_|refine X.G ?_|refine X.H ?_|refine X.I ?_|fail)
        refine WL.ixload3 (j := k) oC8 (List.getElem?_eq_getElem hlkt) ?_
        intro p3
        obtain ⟨⟨cc, ct, cn⟩, hcE⟩ : ∃ s, tC[k] = s := ⟨_, rfl⟩
        rw [hcE] at hck ⊢
        obtain ⟨⟨cC', cT'⟩, hyE⟩ : ∃ s, C[k] = s := ⟨_, rfl⟩
        rw [hyE] at hck hokk
        have hcn : cn = .int .i64 0 := hck.2.2
        subst hcn
        refine WL.var (vs := [cc, ct, .int .i64 0]) (fun _ => by rfl) (by rfl) (fun x hx => by
          have h1 := hck.one
          simp only [List.mem_cons, List.not_mem_nil, or_false] at hx
          rcases hx with rfl | rfl | rfl
          · exact h1.1
          · exact h1.2.1
          · rfl) ?_
        intro w9 hb10 hbl9 hz9
        have hb89 := hb88.below hbl9 (by omega)
        have hts9 := TSame.below (e := 22) (e2 := 2) hbl9
        have hsj9 := hsj8.tsame hts9
        have hck9 := hck.tsame hts9
        have om9 := om.below hbl9 (Nat.le_refl _)
        have hAm9 := hAm.tsame hts9
        repeat' (first|refine X.O ?_|refine X.A ?_|refine X.B ?_|refine X.C ?_|refine X.D ?_|refine X.E ?_|refine X.F ?_|refine X.G ?_|refine X.H ?_|refine X.I ?_|fail)
        refine WP.forkedL (fun w' => Below w9.heap.size w9 w') [15, 16] (.q 0 (.q 1 (.q 2 (.q 3 (.q 4 (.q 7 (.q 8 (.q 9 (.q 10 (.two 5 (.two 6 (.o 11 (.o 12 (.o 13 (.o 14 (.o 15 (.o 16 .nil)))))) 11 (.o 6 (.o 12 (.o 13 (.o 14 (.o 15 (.o 16 .nil))))))) 11 (.o 5 (.o 6 (.o 12 (.o 13 (.o 14 (.o 15 (.o 16 .nil))))))))))))))))) (by kernel_rfl) mixed ?_
        intro w10 hs10
        have hz10 := hs10.size
        have hS10 : Below w9.heap.size w9 w10 := hs10.below _
        have hts10 := TSame.still (e := 22) (e2 := 2) hs10
        refine WV.q rfl (q_s (by rfl)) hS10 ?_
        refine WV.fld rfl rfl (fun w' h => hb89.below h (by omega)) hS10 ?_
        intro q1
        refine WV.fld rfl rfl (fun w' h => hb10.below h (by omega)) hS10 ?_
        intro q2
        refine WV.fld rfl rfl (fun w' h => hb89.below h (by omega)) hS10 ?_
        intro q3
        refine WV.fld rfl rfl (fun w' h => hb10.below h (by omega)) hS10 ?_
        intro q4
        have hRA := Roo.two (hsj9.1.tsame hts10) (hck9.1.tsame hts10)
        have hRB := Roo.two (hsj9.2.1.tsame hts10) (hck9.2.1.tsame hts10)
        have oneA : ∀ x ∈ [sc, cc], x.oneCell' = true := fun x hx => by
          simp only [List.mem_cons, List.not_mem_nil, or_false] at hx
          rcases hx with rfl | rfl
          · exact hsj9.one.1
          · exact hck9.one.1
        have oneB : ∀ x ∈ [st, ct], x.oneCell' = true := fun x hx => by
          simp only [List.mem_cons, List.not_mem_nil, or_false] at hx
          rcases hx with rfl | rfl
          · exact hsj9.one.2.1
          · exact hck9.one.2.1
        have hnA : [sC, cC'].flatten.length ≤ 1000000 := by
          have h1 := hokj.crown_len; have h2 := hokk.crown_len
          simp only [List.flatten_cons, List.flatten_nil, List.append_nil, List.length_append]
          have := htk i
          dsimp only at h1 h2
          omega
        have hnB : [sT, cT'].flatten.length ≤ 1000000 := by
          have h1 := hokj.trunk_len; have h2 := hokk.trunk_len
          simp only [List.flatten_cons, List.flatten_nil, List.append_nil, List.length_append]
          have := htk i
          dsimp only at h1 h2
          omega
        refine WV.via (fun l' x => ∃ vA litB, Agree l' [(0, v), (5, u), (8, .pointer (some ⟨w5.heap.size, 0, none⟩)), (16, .slice a2 bs.length c2), (17, .int .i64 (bs.length : Nat)), (18, .int .i64 (i : Nat)), (23, .slice al tl.length cl), (24, .int .i64 (tl.length : Nat)), (25, .int .i64 (j : Nat)), (30, .slice aC tC.length cC), (31, .int .i64 (tC.length : Nat)), (32, .int .i64 (k : Nat)), (36, vm), (42, vA), (47, litB)] ∧
            Roo 22 2 x vA (sC ++ cC') ∧ Own w10.heap.size 43 x litB [st, ct] ∧ Below w10.heap.size w10 x)
          (.o 12 (.o 13 (.o 14 (.o 15 (.o 16 .nil))))) ?_ (fun fin => ?_)
        · rintro l' x ⟨vA, litB, hag, hvA, hlB, hblx⟩
          have hzx := hblx.size
          refine WV.frame _ hag ?_
          clear hag
          have hRBx : ∀ (i : Nat) u f, [st, ct][i]? = some u → [sT, cT'][i]? = some f → Roo 22 2 x u f := fun i u f hu hf => (hRB i u f hu hf).tsame (TSame.below hblx)
          refine WV.o rfl (o_call (ConcatSS_any hlB rfl hnB (by simp) hRBx) ?_)
          rintro vB x1 ⟨hvB, hblx1⟩
          have hzx1 := hblx1.size
          have hvA1 := hvA.tsame (TSame.below hblx1)
          have hfB : [sT, cT'].flatten = sT ++ cT' := by simp
          rw [hfB] at hvB
          have hSx1 : Below w9.heap.size w9 x1 := (hS10.trans (Below.mono hblx (by omega))).trans (Below.mono hblx1 (by omega))
          refine ⟨hSx1, ?_⟩
          obtain ⟨aA, cA, hvAe⟩ := hvA1.shape
          obtain ⟨aB, cB, hvBe⟩ := hvB.shape
          subst hvAe hvBe
          refine WV.o rfl (o_build (us := [.slice aA (sC ++ cC').length cA, .slice aB (sT ++ cT').length cB]) (cells := [.slice aA (sC ++ cC').length cA, .slice aB (sT ++ cT').length cB, .int .i64 0]) (by rfl) (by rfl) ?_)
          refine ⟨hSx1, ?_⟩
          refine WV.o rfl (o_lit31 (tr := (.slice aA (sC ++ cC').length cA, .slice aB (sT ++ cT').length cB, .int .i64 0)) (by rfl) ?_)
          intro vL x2 hownL hblx2 hzx2
          have hSx2 := hSx1.trans (Below.mono hblx2 (by omega))
          refine ⟨hSx2, ?_⟩
          have om2 := om9.below hSx2 (Nat.le_refl _)
          refine WV.late rfl (o_append3 (lo := w3.heap.size) (by rfl) (by rfl) om2 hownL ⟨rfl, rfl, rfl⟩ (by unfold maxLen; omega) (by omega) (by omega) ?_)
          intro v' x3 hap
          have hzx3 := hap.bel.size
          refine WV.late rfl (o_s (by rfl) ?_)
          refine WV.nil ?_
          have hts23 := hap.tsame (e1 := 22) (e2 := 2) om2 (by decide) (by decide)
          have htsx : TSame 22 2 w9 x3 := (TSame.below hSx2).trans hts23
          have hts12 : TSame 22 2 x1 x3 := (TSame.below hblx2).trans hts23
          have hAx : SplA x3 (tm ++ [(.slice aA (sC ++ cC').length cA, .slice aB (sT ++ cT').length cB, .int .i64 0)]) ((crossL (L.take j) C ++ (C.take k).map fun c => (sC ++ c.1, sT ++ c.2)) ++ [(sC ++ cC', sT ++ cT')]) 0 :=
            (hAm9.tsame htsx).snoc ⟨hvA1.tsame hts12, hvB.tsame hts12, rfl⟩
          have hCt : crossL (L.take j) C ++ (C.take (k + 1)).map (fun c => (sC ++ c.1, sT ++ c.2)) = (crossL (L.take j) C ++ (C.take k).map fun c => (sC ++ c.1, sT ++ c.2)) ++ [(sC ++ cC', sT ++ cT')] := by
            rw [List.take_succ_eq_append_getElem hlk, List.map_append, hyE, ← List.append_assoc]; rfl
          have hbl93 : Below w3.heap.size w9 x3 := (Below.mono hSx2 (by omega)).trans hap.bel
          repeat' (first|refine X.O ?_|refine X.A ?_|refine X.B ?_|refine X.C ?_|refine X.D ?_|refine X.E ?_|refine X.F ?_|refine X.G ?_|refine X.H ?_|refine X.I ?_|fail)
          refine ⟨(k + 1, v'), ⟨rfl, rfl, rfl, rfl, rfl, rfl, rfl, rfl, rfl, rfl, rfl, rfl, (by first|rfl|exact X.T (by omega)), trivial⟩, ⟨by dsimp only; omega, ⟨_, hap.own, by dsimp only; rw [hCt]; exact hAx⟩, fun b hb => ?_, fun b hb1 hb2 => ?_, hts8.trans ((TSame.below hbl9).trans htsx), (hbl8.trans (Below.mono hbl9 (by omega))).trans hbl93⟩, by dsimp only; omega⟩
          · rcases hap.blk b hb with h1 | h1
            · exact hbm b h1
            · exact Or.inr (by omega)
          · rw [hap.out b (by omega) (fun e => by rcases hbm b e with h1 | h1 <;> omega), hSx2.block b (by omega), hbl9.block b (by omega)]
            exact hsm8 b hb1 hb2
        · refine WV.two rfl rfl (o_lit (us := [sc, cc]) (by rfl) (by rfl) rfl (by decide) oneA ?_) (o_lit (us := [st, ct]) (by rfl) (by rfl) rfl (by decide) oneB ?_)
          · intro vl1 y1 hl1 hby1 hzy1 _
            have hSy1 := hS10.trans (Below.mono hby1 (by omega))
            refine ⟨hSy1, ?_⟩
            have hRA1 : ∀ (i : Nat) u f, [sc, cc][i]? = some u → [sC, cC'][i]? = some f → Roo 22 2 y1 u f := fun i u f hu hf => (hRA i u f hu hf).tsame (TSame.below hby1)
            refine WV.two rfl rfl (o_call (ConcatSS_any hl1 rfl hnA (by simp) hRA1) ?_) (o_lit (us := [st, ct]) (by rfl) (by rfl) rfl (by decide) oneB ?_)
            · rintro vA y2 ⟨hvA, hby2⟩
              have hzy2 := hby2.size
              have hSy2 := hSy1.trans (Below.mono hby2 (by omega))
              refine ⟨hSy2, ?_⟩
              refine WV.o rfl (o_lit (us := [st, ct]) (by rfl) (by rfl) rfl (by decide) oneB ?_)
              intro vl2 y3 hl2 hby3 hzy3 _
              refine ⟨hSy2.trans (Below.mono hby3 (by omega)), ?_⟩
              exact fin _ y3 ⟨vA, vl2, ⟨rfl, rfl, rfl, rfl, rfl, rfl, rfl, rfl, rfl, rfl, rfl, rfl, rfl, rfl, rfl, trivial⟩, by have := hvA.tsame (TSame.below hby3); simpa using this, hl2.lower (by omega), (hby1.trans (Below.mono hby2 (by omega))).trans (Below.mono hby3 (by omega))⟩
            · intro vl2 y2 hl2 hby2 hzy2 _
              have hSy2 := hSy1.trans (Below.mono hby2 (by omega))
              refine ⟨hSy2, ?_⟩
              have hRA2 : ∀ (i : Nat) u f, [sc, cc][i]? = some u → [sC, cC'][i]? = some f → Roo 22 2 y2 u f := fun i u f hu hf => (hRA1 i u f hu hf).tsame (TSame.below hby2)
              refine WV.o rfl (o_call (ConcatSS_any (hl1.below hby2 (Nat.le_refl _)) rfl hnA (by simp) hRA2) ?_)
              rintro vA y3 ⟨hvA, hby3⟩
              have hzy3 := hby3.size
              refine ⟨hSy2.trans (Below.mono hby3 (by omega)), ?_⟩
              exact fin _ y3 ⟨vA, vl2, ⟨rfl, rfl, rfl, rfl, rfl, rfl, rfl, rfl, rfl, rfl, rfl, rfl, rfl, rfl, rfl, trivial⟩, by simpa using hvA, (hl2.lower (by omega)).below hby3 (Nat.le_refl _), (hby1.trans (Below.mono hby2 (by omega))).trans (Below.mono hby3 (by omega))⟩
          · intro vl2 y1 hl2 hby1 hzy1 _
            have hSy1 := hS10.trans (Below.mono hby1 (by omega))
            refine ⟨hSy1, ?_⟩
            refine WV.o rfl (o_lit (us := [sc, cc]) (by rfl) (by rfl) rfl (by decide) oneA ?_)
            intro vl1 y2 hl1 hby2 hzy2 _
            have hSy2 := hSy1.trans (Below.mono hby2 (by omega))
            refine ⟨hSy2, ?_⟩
            have hRA2 : ∀ (i : Nat) u f, [sc, cc][i]? = some u → [sC, cC'][i]? = some f → Roo 22 2 y2 u f := fun i u f hu hf => ((hRA i u f hu hf).tsame (TSame.below hby1)).tsame (TSame.below hby2)
            refine WV.o rfl (o_call (ConcatSS_any hl1 rfl hnA (by simp) hRA2) ?_)
            rintro vA y3 ⟨hvA, hby3⟩
            have hzy3 := hby3.size
            refine ⟨hSy2.trans (Below.mono hby3 (by omega)), ?_⟩
            exact fin _ y3 ⟨vA, vl2, ⟨rfl, rfl, rfl, rfl, rfl, rfl, rfl, rfl, rfl, rfl, rfl, rfl, rfl, rfl, rfl, trivial⟩, by simpa using hvA, (hl2.below hby2 (Nat.le_refl _)).below hby3 (by omega), (hby1.trans (Below.mono hby2 (by omega))).trans (Below.mono hby3 (by omega))⟩
      · rename_i hgek
        have hke : k = C.length := by omega
        subst hke
        rw [List.take_length, ← hcr] at hAm
        repeat' (first|refine X.O ?_|refine X.A ?_|refine X.B ?_|refine X.C ?_|refine X.D ?_|refine X.E ?_|refine X.F ?_|refine X.G ?_|refine X.H ?_|refine X.I ?_|fail)
        exact ⟨(j + 1, vm), ⟨rfl, rfl, rfl, rfl, rfl, rfl, rfl, rfl, (by first|rfl|exact X.T (by omega)), trivial⟩, ⟨by dsimp only; omega, ⟨_, om, hAm⟩, hbl8, by omega⟩, by dsimp only; omega⟩
    · rename_i hgej
      have hje : j = L.length := by omega
      subst hje
      rw [List.take_length, ← hfs] at hAn
      repeat' (first|refine X.O ?_|refine X.A ?_|refine X.B ?_|refine X.C ?_|refine X.D ?_|refine X.E ?_|refine X.F ?_|refine X.G ?_|refine X.H ?_|refine X.I ?_|fail)
      exact ⟨(i + 1, vn), ⟨rfl, rfl, rfl, rfl, (by first|rfl|exact X.T (by omega)), trivial⟩, ⟨by dsimp only; omega, ⟨_, on.lower (by omega), hAn⟩, hbl3.trans (Below.mono hbl5 (by omega))⟩, by dsimp only; omega⟩
  · rename_i hge
    have hie : i = bs.length := by omega
    subst hie
    have hblA : Below w.heap.size w w3 := (hbl1.trans (Below.mono hbl2 (by omega))).trans (Below.mono hbl3 (by omega))
    have hfull : (bs.take bs.length).flatten.length + 1 = t.length := by rw [List.take_length]; exact hcnt
    obtain ⟨L, hL⟩ : ∃ L, foldS f bs bs.length = L := ⟨_, rfl⟩
    rw [hL] at hAl hLl hLo hsp
    have htll := hAl.1
    rw [hvl] at ol ⊢
    repeat' (first|refine X.O ?_|refine X.A ?_|refine X.B ?_|refine X.C ?_|refine X.D ?_|refine X.E ?_|refine X.F ?_|refine X.G ?_|refine X.H ?_|refine X.I ?_|fail)
    refine WL.step (o_len3 (by rfl) ?_)
    repeat' (first|refine X.O ?_|refine X.A ?_|refine X.B ?_|refine X.C ?_|refine X.D ?_|refine X.E ?_|refine X.F ?_|refine X.G ?_|refine X.H ?_|refine X.I ?_|fail)
    refine WP.loop (fun (i : Nat) => [(0, v), (3, .slice al tl.length cl), (56, .slice al tl.length cl), (57, .int .i64 (tl.length : Nat)), (58, .int .i64 (i : Nat))])
      (fun i w4 => i ≤ L.length ∧ (∃ ts, Own3 w.heap.size 88 w4 (.slice al tl.length cl) ts ∧ SplA w4 ts ((L.map trunkF).take i ++ L.drop i) 0) ∧ Below w.heap.size w w4)
      (fun i => L.length - i) 0 ⟨rfl, rfl, rfl, rfl, rfl, trivial⟩ ⟨by omega, ⟨tl, ol, by simpa using hAl⟩, hblA⟩ ?_
    rintro i w4 ⟨hi1, ⟨tm, om, hAm⟩, hbl4⟩
    have hz4 := hbl4.size
    have hmlen : tm.length = L.length := by rw [hAm.1, List.length_append, List.length_take, List.length_map, List.length_drop]; omega
    repeat' (first|refine X.O ?_|refine X.A ?_|refine X.B ?_|refine X.C ?_|refine X.D ?_|refine X.E ?_|refine X.F ?_|refine X.G ?_|refine X.H ?_|refine X.I ?_|fail)
    first|refine X.J (fun _ => ?_) (fun _ => ?_)|refine X.L (fun _ => ?_) (fun _ => ?_)|refine X.M (fun _ => ?_) (fun _ => ?_)|refine X.R (fun _ => ?_) (fun _ => ?_)|fail
    · rename_i hlt
      have hli : i < L.length := by omega
      have hlit : i < tm.length := by omega
      have hsj := hAm.2 i _ _ (List.getElem?_eq_getElem hlit) (mid_get hli)
      have hok := hLo _ (List.getElem_mem hli)
      have hstep := put_stepG (k := trunkF) hli
      repeat' (first|refine X.O ?_|refine X.A ?_|refine X.B ?_|refine X.C ?_|refine X.D ?_|refine X.E ?_|refine X.F ?_|refine X.G ?_|refine X.H ?_|refine X.I ?_|fail)
      refine WL.ixload3 (j := i) om (List.getElem?_eq_getElem hlit) ?_
      intro p2
      obtain ⟨⟨sc, st, sn⟩, hsE⟩ : ∃ s, tm[i] = s := ⟨_, rfl⟩
      rw [hsE] at hsj ⊢
      obtain ⟨⟨sC, sT⟩, hxE⟩ : ∃ s, L[i] = s := ⟨_, rfl⟩
      rw [hxE] at hsj hok hstep
      have hsn : sn = .int .i64 0 := hsj.2.2
      subst hsn
      refine WL.step (o_alloc ?_)
      intro w5 hb5 hbl5 hz5
      repeat' (first|refine X.O ?_|refine X.A ?_|refine X.B ?_|refine X.C ?_|refine X.D ?_|refine X.E ?_|refine X.F ?_|refine X.G ?_|refine X.H ?_|refine X.I ?_|fail)
      refine WL.step (o_storeS (vs := [sc, st, .int .i64 0]) (by rfl) (by rfl) hb5 (by rfl) (by rfl) (fun x hx => by
        have h1 := hsj.one
        simp only [List.mem_cons, List.not_mem_nil, or_false] at hx
        rcases hx with rfl | rfl | rfl
        · exact h1.1
        · exact h1.2.1
        · rfl) ?_)
      intro w6 hb6 hbut6
      have hz6 := hbut6.size
      have hbl46 : Below w4.heap.size w4 w6 := hbl5.trans (hbut6.below (Nat.le_refl _))
      have hsj6 := hsj.tsame (TSame.below hbl46)
      have om6 := om.below hbl46 (Nat.le_refl _)
      have hAm6 := hAm.tsame (TSame.below hbl46)
      repeat' (first|refine X.O ?_|refine X.A ?_|refine X.B ?_|refine X.C ?_|refine X.D ?_|refine X.E ?_|refine X.F ?_|refine X.G ?_|refine X.H ?_|refine X.I ?_|fail)
      refine WL.fld hb6 ?_
      intro p3
      have hokn := hok.n
      dsimp only at hokn
      have htki := htk bs.length
      have hT := hok.t
      dsimp only at hT
      have hTb : ∀ b ∈ sT, b.length ≤ 1000 ∧ ∀ x ∈ b, 0 ≤ x ∧ x ≤ 1000 := fun b hb => by
        have h1 := mem_le_flat hb
        exact ⟨by omega, fun x hx => by have := (hT b hb).bdm x hx; omega⟩
      refine WL.call (rootOn_any hsj6.2.1.rd hTb (by have := hok.trunk_len; dsimp only at this ⊢; omega)) ?_
      intro v7 w7 hN7
      have hz7 := hN7.2.size
      have hrl := rootL_length sT
      repeat' (first|refine X.O ?_|refine X.A ?_|refine X.B ?_|refine X.C ?_|refine X.D ?_|refine X.E ?_|refine X.F ?_|refine X.G ?_|refine X.H ?_|refine X.I ?_|fail)
      refine WL.call (canonical_any 8 (by omega) hN7.ow.rd (rootL_lv hT) (by dsimp only; omega)) ?_
      intro v8 w8 hN8
      have hz8 := hN8.2.size
      obtain ⟨_, _, hv8, _⟩ := hN8.1.shape
      repeat' (first|refine X.O ?_|refine X.A ?_|refine X.B ?_|refine X.C ?_|refine X.D ?_|refine X.E ?_|refine X.F ?_|refine X.G ?_|refine X.H ?_|refine X.I ?_|fail)
      refine WL.step (o_lit (us := [v8]) (by rfl) (by rfl) rfl (by decide) (one1 (by rw [hv8]; rfl)) ?_)
      intro v9 w9 hown9 hbl9 hz9 hv9
      have hbl69 : Below w6.heap.size w6 w9 := (hN7.2.trans (Below.mono hN8.2 (by omega))).trans (Below.mono hbl9 (by omega))
      have om9 := om6.below hbl69 (Nat.le_refl _)
      have hAm9 := hAm6.tsame (TSame.below hbl69)
      have hsj9 := hsj6.tsame (TSame.below hbl69)
      have hroo : Roo 22 2 w9 v9 [canonI 8 (rootL sT)] := Roo.single hown9 (hN8.1.below hbl9 (Nat.le_refl _))
      subst hv9
      refine WL.ixfst3 (j := i) (off := 1) om9 (by rw [List.getElem?_eq_getElem hlit, hsE]) (by omega) ?_
      intro p4 q4 g w10 hg hown10 hbut10
      obtain ⟨cur9, hcur9⟩ := om9.elem hg
      have hts10 := TSame.but (e := 22) (e2 := 2) hbut10 hcur9 (by decide) (by decide)
      have hA10 : SplA w10 (tm.set i (Tri.put (sc, st, Value.int .i64 0) 1 (.slice (some ⟨w8.heap.size, 0, none⟩) 1 1))) ((L.map trunkF).take (i + 1) ++ L.drop (i + 1)) 0 := by
        rw [← hstep]
        exact (hAm9.tsame hts10).set ⟨hsj9.1.tsame hts10, hroo.tsame hts10, rfl⟩
      repeat' (first|refine X.O ?_|refine X.A ?_|refine X.B ?_|refine X.C ?_|refine X.D ?_|refine X.E ?_|refine X.F ?_|refine X.G ?_|refine X.H ?_|refine X.I ?_|fail)
      exact ⟨i + 1, ⟨rfl, rfl, rfl, rfl, (by first|rfl|exact X.T (by omega)), trivial⟩, ⟨by omega, ⟨_, hown10, hA10⟩, ((hbl4.trans (Below.mono hbl46 (by omega))).trans (Below.mono hbl69 (by omega))).trans (hbut10.below (om9.block g hg).1)⟩, by omega⟩
    · rename_i hge
      have hie : i = L.length := by omega
      subst hie
      rw [List.drop_length, List.append_nil, List.take_of_length_le (by rw [List.length_map]; omega)] at hAm
      repeat' (first|refine X.O ?_|refine X.A ?_|refine X.B ?_|refine X.C ?_|refine X.D ?_|refine X.E ?_|refine X.F ?_|refine X.G ?_|refine X.H ?_|refine X.I ?_|fail)
      refine WL.call (canonical_any 8 (by omega) (h.below RI.stable hbl4 hz) ht h8) ?_
      intro v8 w8 hN8
      have hz8 := hN8.2.size
      obtain ⟨_, _, hv8, _⟩ := hN8.1.shape
      repeat' (first|refine X.O ?_|refine X.A ?_|refine X.B ?_|refine X.C ?_|refine X.D ?_|refine X.E ?_|refine X.F ?_|refine X.G ?_|refine X.H ?_|refine X.I ?_|fail)
      refine WL.step (o_lit (us := [v8]) (by rfl) (by rfl) rfl (by decide) (one1 (by rw [hv8]; rfl)) ?_)
      intro v9 w9 hown9 hbl9 hz9 hv9
      have hroo : Roo 22 2 w9 v9 [canonI 8 t] := Roo.single hown9 (hN8.1.below hbl9 (Nat.le_refl _))
      subst hv9
      refine WL.step (o_build (us := [.slice (some ⟨w8.heap.size, 0, none⟩) 1 1]) (cells := [.slice (some ⟨w8.heap.size, 0, none⟩) 1 1, .slice none 0 0, .int .i64 0]) (by rfl) (by rfl) ?_)
      have hbl49 : Below w4.heap.size w4 w9 := hN8.2.trans (Below.mono hbl9 (by omega))
      have om9 := om.below hbl49 (Nat.le_refl _)
      refine WL.app3 (tr := (.slice (some ⟨w8.heap.size, 0, none⟩) 1 1, .slice none 0 0, .int .i64 0)) (fun _ => by rfl) (by rfl) om9 ⟨rfl, rfl, rfl⟩ (by unfold maxLen; omega) (by omega) (by omega) ?_
      intro p v' w10 hap _
      have hts := (TSame.below (e := 22) (e2 := 2) hbl49).trans (hap.tsame om9 (by decide) (by decide))
      repeat' (first|refine X.O ?_|refine X.A ?_|refine X.B ?_|refine X.C ?_|refine X.D ?_|refine X.E ?_|refine X.F ?_|refine X.G ?_|refine X.H ?_|refine X.I ?_|fail)
      refine ⟨_, ret1 rfl (by rfl), ?_⟩
      refine ⟨⟨_, hap.own, ?_⟩, (hbl4.trans (Below.mono hbl49 (by omega))).trans hap.bel⟩
      rw [hsp]
      exact (hAm.tsame hts).snoc ⟨hroo.tsame (hap.tsame om9 (by decide) (by decide)), Roo.nil _ _ _, rfl⟩
end Go.Proofs
/- Cuts in order and counted: gathered; the cuts of a tree: cutsOf. -/
set_option maxRecDepth 8000
namespace Go.Rk
open Go.Fw Go.Proofs
theorem last_set {α : Type} : ∀ (l : List α) (y : α), l ≠ [] → l.dropLast ++ [y] = l.set (l.length - 1) y
  | [], _, h => absurd rfl h
  | [x], y, _ => rfl
  | x :: z :: l, y, _ => by
    have := last_set (z :: l) y (by simp)
    rw [List.dropLast_cons_cons, List.cons_append, this]
    simp
/-- What the counted cuts are. -/
def GOk (M : List Spl) (n : Nat) (out : List SplD) : Prop := ∀ x ∈ out, (x.1, x.2.1) ∈ M ∧ 0 ≤ x.2.2 ∧ x.2.2 ≤ n
theorem addC_ok {M : List Spl} {n : Nat} {out : List SplD} {s : Spl} (h : GOk M n out) (hs : s ∈ M) : GOk M (n + 1) (addC out s) := fun x hx => by
  have hold : ∀ y ∈ out, (y.1, y.2.1) ∈ M ∧ 0 ≤ y.2.2 ∧ y.2.2 ≤ ((n + 1 : Nat) : Int) := fun y hy => by have := h y hy; exact ⟨this.1, this.2.1, by omega⟩
  have hnew : (((s.1, s.2, (1 : Int)) : SplD).1, ((s.1, s.2, (1 : Int)) : SplD).2.1) ∈ M ∧ 0 ≤ (1 : Int) ∧ (1 : Int) ≤ ((n + 1 : Nat) : Int) := ⟨hs, by omega, by omega⟩
  unfold addC at hx
  split at hx
  · rename_i y hy
    have hym := h y (List.mem_of_getLast? hy)
    split at hx
    · rcases List.mem_append.1 hx with h1 | h1
      · exact hold x ((List.dropLast_sublist out).subset h1)
      · simp only [List.mem_singleton] at h1; subst h1
        exact ⟨hym.1, by dsimp only; omega, by dsimp only; omega⟩
    · rcases List.mem_append.1 hx with h1 | h1
      · exact hold x h1
      · simp only [List.mem_singleton] at h1; subst h1; exact hnew
  · rcases List.mem_append.1 hx with h1 | h1
    · exact hold x h1
    · simp only [List.mem_singleton] at h1; subst h1; exact hnew
theorem groupC_succ {Z : List Spl} {j : Nat} (h : j < Z.length) : groupC (Z.take (j + 1)) = addC (groupC (Z.take j)) Z[j] := by
  unfold groupC; rw [List.take_succ_eq_append_getElem h, List.foldl_append]; rfl
theorem groupC_ok {Z : List Spl} : ∀ j, j ≤ Z.length → GOk Z j (groupC (Z.take j)) ∧ (groupC (Z.take j)).length ≤ j
  | 0, _ => ⟨fun x hx => by simp [groupC] at hx, by simp [groupC]⟩
  | j + 1, hj => by
    have hl : j < Z.length := by omega
    have ih := groupC_ok (Z := Z) j (by omega)
    rw [groupC_succ hl]
    refine ⟨addC_ok ih.1 (List.getElem_mem hl), ?_⟩
    unfold addC
    split
    · rename_i x hx
      have hne : groupC (Z.take j) ≠ [] := fun e => by rw [e] at hx; simp at hx
      have := List.length_pos_iff.2 hne
      split
      · rw [List.length_append, List.length_dropLast, List.length_singleton]; omega
      · rw [List.length_append, List.length_singleton]; omega
    · rw [List.length_append, List.length_singleton]; omega
theorem getLast_at {α : Type} {l : List α} (hl : 0 < l.length) : l.getLast? = some (l[l.length - 1]'(by omega)) := by
  rw [List.getLast?_eq_getElem?, List.getElem?_eq_getElem (by omega)]
theorem addC_eq {out : List SplD} {s : Spl} (hl : 0 < out.length) (h : cmpC ((out[out.length - 1]'(by omega)).1, (out[out.length - 1]'(by omega)).2.1) s = 0) :
    addC out s = out.set (out.length - 1) ((out[out.length - 1]'(by omega)).1, (out[out.length - 1]'(by omega)).2.1, (out[out.length - 1]'(by omega)).2.2 + 1) := by
  unfold addC
  rw [getLast_at hl]
  simp only [h, if_true]
  exact last_set out _ (fun e => by rw [e] at hl; simp at hl)
theorem addC_ne {out : List SplD} {s : Spl} (hl : 0 < out.length) (h : cmpC ((out[out.length - 1]'(by omega)).1, (out[out.length - 1]'(by omega)).2.1) s ≠ 0) : addC out s = out ++ [(s.1, s.2, 1)] := by
  unfold addC
  rw [getLast_at hl]
  simp only [h, if_false]
theorem addC_nil (s : Spl) : addC [] s = [(s.1, s.2, 1)] := rfl
def setN (n : Int) (s : Spl) : SplD := (s.1, s.2, n)
def sortN (y : SplD) : SplD := (insSort ltT y.1, insSort ltT y.2.1, 1)
theorem insSort_flat (f : For) : (insSort ltT f).flatten.length = f.flatten.length := flatten_length_perm (insSort_perm ltT f)
/-- A cut's forests are small. -/
def Small (s : Spl) : Prop := s.1.length ≤ 19 ∧ s.2.length ≤ 19 ∧ (∀ b ∈ s.1, b.length ≤ 1000000) ∧ (∀ b ∈ s.2, b.length ≤ 1000000) ∧ s.1.flatten.length ≤ 1000000000
theorem SOk.small {n : Nat} {s : Spl} (h : SOk n s) (hn : n ≤ 19) : Small s := by
  have h1 := h.crown_len; have h2 := h.trunk_len; have h3 := h.n
  exact ⟨by omega, by omega, fun b hb => by have := mem_le_flat hb; omega, fun b hb => by have := mem_le_flat hb; omega, by omega⟩
end Go.Rk
namespace Go.Fw
open Go Go.RowKit
section
variable {P : Program} {N : Nat} {S : World → Prop} {l : Fr} {ops : Array Oper} {d : Nat} {ty : TypeId} {pos : String} {af : Array Edge} {g : Option (Nat × Bool)}
/-- A struct is read at a place, in a drawn region. -/
theorem q_load3 {t : TypeId} {z : Array Value} [h : StructTy P t 3 z] {x : Operand} {b o : Nat} {tr : Tri} (hx : ev l x = some (.pointer (some ⟨b, o, none⟩))) (hc : ∀ w, S w → ∀ j u, tr.cells[j]? = some u → w.cell? ⟨b, o + j, none⟩ = some u)
    (hg : wantedL ops l g = some true := by rfl) (hd : Nat.blt d N = true := by rfl) : QW P N ops S ⟨some d, .load t x, ty, pos, af, g⟩ l d (.agg tr.cells.toArray) :=
  QW.mk (fun fr ha w hS => by
    have hr := run_loadAt_cells (P := P) (w := w) (t := t) (a := ⟨b, o, none⟩) (cs := tr.cells) rfl (fun j u hu => by
      have e : (⟨b, o, none⟩ : Addr).add j = ⟨b, o + j, none⟩ := by unfold Addr.add; split <;> simp_all
      rw [e]; exact hc w hS j u hu)
    simp [execOp, ha.ev hx, hr]) hg hd
end
section
variable {P : Program} {N : Nat} {Q : Exit → Fr → World → Prop} {S : World → Prop} {l : Fr} {w : World} {ops : Array Oper} {sc : List (Nat × Bool)}
/-- x[i], a struct, in a drawn region. -/
theorem WS.ixload3 {m m' : Nat} {t t2 e : TypeId} {z z2 : Array Value} {bytes : Nat} [SliceTy3 P t e z bytes] [StructTy P t2 3 z2] {x y : Operand} {kk : IntKind} {i : Int} {j : Nat} {d1 d2 lo : Nat} {e' : TypeId} {v : Value} {ts : List Tri} {tr : Tri} {ty1 ty2 : TypeId} {pos1 pos2 : String} {af1 af2 : Array Edge} {g1 g2 : Option (Nat × Bool)} {x2 : Operand}
    (hi1 : ops[m]? = some ⟨some d1, .indexAddr t x y, ty1, pos1, af1, g1⟩) (hj1 : ops[m']? = some ⟨some d2, .load t2 x2, ty2, pos2, af2, g2⟩)
    (hs : ∀ w', S w' → Own3 lo e' w' v ts) (ha : ts[j]? = some tr) (hS : S w)
    (k : ∀ p, WS P N ops Q S sc ((d2, .agg tr.cells.toArray) :: (d1, p) :: l) w) (hx : ev l x = some v := by rfl) (hy : ev l y = some (.int kk i) := by rfl) (hij : i = (j : Int) := by first | rfl | omega) (h2 : x2 = .tmp d1 := by rfl)
    (hg1 : wantedL ops l g1 = some true := by rfl) (hg2 : ∀ p, wantedL ops ((d1, .pointer (some p)) :: l) g2 = some true := by intro _; rfl) (hd1 : Nat.blt d1 N = true := by rfl) (hd2 : Nat.blt d2 N = true := by rfl) :
    WS P N ops Q S ((m, true) :: (m', true) :: sc) l w := by
  subst h2
  obtain ⟨g, c, rfl, _, _, _, _, _⟩ := (hs w hS).place ha
  have hlt := (List.getElem?_eq_some_iff.1 ha).1
  subst hij
  refine WS.q hi1 (q_ix3 hx hy (by omega) (by omega) hg1 hd1) hS ?_
  rw [Nat.zero_add, Int.toNat_natCast]
  refine WS.q hj1 (q_load3 (look_cons_self _ _ _) (fun w' hw' => ?_) (hg2 _) hd2) hS (k _)
  obtain ⟨g', c', hv', _, _, hcell, _, _⟩ := (hs w' hw').place ha
  simp only [Value.slice.injEq, Option.some.injEq, Addr.mk.injEq] at hv'
  obtain ⟨⟨rfl, _⟩, _, _⟩ := hv'
  exact hcell
end
end Go.Fw
namespace Go.Proofs
open Go Go.Fw Go.RowKit Go.Rk
/-- A list of counted cuts in memory. -/
def SplG (w : World) (ts : List Tri) (xs : List SplD) : Prop := ts.length = xs.length ∧ ∀ (i : Nat) t x, ts[i]? = some t → xs[i]? = some x → SplR w t (x.1, x.2.1) x.2.2
theorem SplG.tsame {w w' : World} {ts : List Tri} {xs : List SplD} (h : SplG w ts xs) (hs : TSame 22 2 w w') : SplG w' ts xs := ⟨h.1, fun i t x ht hx => (h.2 i t x ht hx).tsame hs⟩
theorem SplG.set {w : World} {ts : List Tri} {xs : List SplD} (h : SplG w ts xs) {i : Nat} {t : Tri} {x : SplD} (hr : SplR w t (x.1, x.2.1) x.2.2) : SplG w (ts.set i t) (xs.set i x) := by
  refine ⟨by simp [h.1], fun j u y hu hy => ?_⟩
  rw [List.getElem?_set] at hu hy
  split at hu
  · rename_i e
    rw [if_pos e] at hy
    split at hu
    · rename_i hl
      rw [if_pos (by rw [← h.1]; exact hl)] at hy
      simp only [Option.some.injEq] at hu hy
      subst hu hy
      exact hr
    · cases hu
  · rename_i e
    rw [if_neg e] at hy
    exact h.2 j u y hu hy
theorem SplG.snoc {w : World} {ts : List Tri} {xs : List SplD} {t : Tri} {x : SplD} (h : SplG w ts xs) (hr : SplR w t (x.1, x.2.1) x.2.2) : SplG w (ts ++ [t]) (xs ++ [x]) := by
  refine ⟨by simp [h.1], fun i u y hu hy => ?_⟩
  rw [List.getElem?_append] at hu hy
  rw [← h.1] at hy
  split at hu
  · rename_i hi; rw [if_pos hi] at hy; exact h.2 i u y hu hy
  · rename_i hi
    rw [if_neg hi] at hy
    rcases Nat.eq_zero_or_pos (i - ts.length) with h0 | h0
    · rw [h0] at hu hy; simp at hu hy; subst hu hy; exact hr
    · rw [List.getElem?_eq_none (by simp; omega)] at hu; cases hu
theorem SplG.nil (w : World) : SplG w [] [] := ⟨rfl, fun i t x h => by simp at h⟩
theorem SplA.counted {w : World} {ts : List Tri} {xs : List Spl} {n : Int} (h : SplA w ts xs n) : SplG w ts (xs.map (setN n)) := ⟨by rw [List.length_map]; exact h.1, fun i t x ht hx => by
  rw [List.getElem?_map] at hx
  cases hq : xs[i]? with
  | none => rw [hq] at hx; cases hx
  | some q => rw [hq] at hx; simp only [Option.map_some, Option.some.injEq] at hx; subst hx; exact h.2 i t q ht hq⟩
theorem SplG.plain {w : World} {ts : List Tri} {xs : List Spl} {n : Int} (h : SplG w ts (xs.map (setN n))) : SplA w ts xs n := ⟨by have := h.1; rw [List.length_map] at this; exact this, fun i t x ht hx => by
  have := h.2 i t (setN n x) ht (by rw [List.getElem?_map, hx]; rfl)
  exact this⟩
set_option maxHeartbeats 2000000 in
theorem gathered_any {lo : Nat} {w : World} {v : Value} {ts : List Tri} {xs : List Spl} (h : Own3 lo 88 w v ts) (hx : SplA w ts xs 0) (hne : 1 ≤ ts.length) (hok : ∀ x ∈ xs, Small x) (hn : ts.length ≤ 1000) (hlo : lo ≤ w.heap.size) :
    Does Try.prog 74 [v] w fun r w' => (∃ ts', Own3 w.heap.size 88 w' r ts' ∧ SplG w' ts' (gatherL xs)) ∧ Below lo w w' := by
  obtain ⟨a, c, hv, _⟩ := h.shape
  have hxl := hx.1
  have hpl : ∀ (i : Nat) y, (xs.map (setN 0))[i]? = some y → Small (y.1, y.2.1) := fun i y hy => by
    obtain ⟨s, hs, rfl⟩ := List.mem_map.1 (List.mem_of_getElem? hy)
    exact hok s hs
  have hgl : gatherL xs = groupC (sortC (xs.map sortF)) := rfl
  have hmm : (xs.map (setN 0)).map sortN = (xs.map sortF).map (setN 1) := by rw [List.map_map, List.map_map]; rfl
  have hxs2 : (xs.map (setN 0)).length = ts.length := by rw [List.length_map]; omega
  obtain ⟨ys, hys⟩ : ∃ ys, xs.map (setN 0) = ys := ⟨_, rfl⟩
  rw [hys] at hpl hmm hxs2
  refine Does.enter Try.func74 Try.ntmps74 rfl (by rfl) ?_
  rw [hv]
  repeat' (first|refine X.O ?_|refine X.A ?_|refine X.B ?_|refine X.C ?_|refine X.D ?_|refine X.E ?_|refine X.F ?_|refine X.G ?_|refine X.H ?_|refine X.I ?_|fail)
  refine WL.step (o_len3 (by rfl) ?_)
  repeat' (first|refine X.O ?_|refine X.A ?_|refine X.B ?_|refine X.C ?_|refine X.D ?_|refine X.E ?_|refine X.F ?_|refine X.G ?_|refine X.H ?_|refine X.I ?_|fail)
  refine WP.loop (fun (i : Nat) => [(0, .slice a ts.length c), (10, .slice a ts.length c), (11, .int .i64 (ts.length : Nat)), (12, .int .i64 (i : Nat))])
    (fun i w2 => i ≤ ts.length ∧ (∃ tm, Own3 lo 88 w2 (.slice a ts.length c) tm ∧ SplG w2 tm ((ys.map sortN).take i ++ ys.drop i)) ∧ Below lo w w2)
    (fun i => ts.length - i) 0 ⟨rfl, rfl, rfl, rfl, trivial⟩ ⟨by omega, ⟨ts, by rw [← hv]; exact h, by rw [List.take_zero, List.nil_append, List.drop_zero, ← hys]; exact hx.counted⟩, Below.refl _ _⟩ ?_
  rintro i w2 ⟨hi1, ⟨tm, om, hAm⟩, hbl2⟩
  have hz2 := hbl2.size
  have hmlen : tm.length = ts.length := by rw [hAm.1, List.length_append, List.length_take, List.length_map, List.length_drop]; omega
  repeat' (first|refine X.O ?_|refine X.A ?_|refine X.B ?_|refine X.C ?_|refine X.D ?_|refine X.E ?_|refine X.F ?_|refine X.G ?_|refine X.H ?_|refine X.I ?_|fail)
  first|refine X.J (fun _ => ?_) (fun _ => ?_)|refine X.L (fun _ => ?_) (fun _ => ?_)|refine X.M (fun _ => ?_) (fun _ => ?_)|refine X.R (fun _ => ?_) (fun _ => ?_)|fail
  · rename_i hlt
    have hli : i < ys.length := by omega
    have hlit : i < tm.length := by omega
    have hsj := hAm.2 i _ _ (List.getElem?_eq_getElem hlit) (mid_get hli)
    have hsm := hpl i _ (List.getElem?_eq_getElem hli)
    have hstep := put_stepG (k := sortN) hli
    repeat' (first|refine X.O ?_|refine X.A ?_|refine X.B ?_|refine X.C ?_|refine X.D ?_|refine X.E ?_|refine X.F ?_|refine X.G ?_|refine X.H ?_|refine X.I ?_|fail)
    refine WL.ixload3 (j := i) om (List.getElem?_eq_getElem hlit) ?_
    intro p2
    obtain ⟨⟨sc, st, sn⟩, hsE⟩ : ∃ s, tm[i] = s := ⟨_, rfl⟩
    rw [hsE] at hsj ⊢
    obtain ⟨⟨sC, sT, sN⟩, hxE⟩ : ∃ s, ys[i] = s := ⟨_, rfl⟩
    rw [hxE] at hsj hsm hstep
    refine WL.step (o_alloc ?_)
    intro w3 hb3 hbl3 hz3
    repeat' (first|refine X.O ?_|refine X.A ?_|refine X.B ?_|refine X.C ?_|refine X.D ?_|refine X.E ?_|refine X.F ?_|refine X.G ?_|refine X.H ?_|refine X.I ?_|fail)
    refine WL.step (o_storeS (vs := [sc, st, sn]) (by rfl) (by rfl) hb3 (by rfl) (by rfl) (fun x hx => by
      have h1 := hsj.one
      simp only [List.mem_cons, List.not_mem_nil, or_false] at hx
      rcases hx with rfl | rfl | rfl
      · exact h1.1
      · exact h1.2.1
      · exact h1.2.2) ?_)
    intro w4 hb4 hbut4
    have hz4 := hbut4.size
    have hbl24 : Below w2.heap.size w2 w4 := hbl3.trans (hbut4.below (Nat.le_refl _))
    have hsj4 := hsj.tsame (TSame.below hbl24)
    have om4 := om.below hbl24 (Nat.le_refl _)
    have hAm4 := hAm.tsame (TSame.below hbl24)
    repeat' (first|refine X.O ?_|refine X.A ?_|refine X.B ?_|refine X.C ?_|refine X.D ?_|refine X.E ?_|refine X.F ?_|refine X.G ?_|refine X.H ?_|refine X.I ?_|fail)
    refine WP.drawn (fun w' => Below w4.heap.size w4 w') [(0, true), (1, true), (2, true), (3, true), (5, true), (6, true), (4, false), (7, false), (8, false), (9, true), (1010, false)] (by kernel_rfl) mixed ?_
    intro w5 hs5
    have hz5 := hs5.size
    have hS5 : Below w4.heap.size w4 w5 := hs5.below _
    refine WS.q rfl (q_s (by rfl)) hS5 ?_
    refine WS.q rfl (q_s (by rfl)) hS5 ?_
    refine WS.fld rfl rfl (fun w' h => hb4.below h (by omega)) hS5 ?_
    intro q1
    refine WS.fld rfl rfl (fun w' h => hb4.below h (by omega)) hS5 ?_
    intro q2
    have hsj5 := hsj4.tsame (TSame.below hS5)
    refine WS.call rfl (forestOf_any hsj5.1.rd hsm.2.2.1 hsm.1) ?_
    rintro v6 w6 ⟨⟨vs6, o6⟩, hbl6⟩
    have hz6 := hbl6.size
    have hS6 := hS5.trans (Below.mono hbl6 (by omega))
    refine ⟨hS6, ?_⟩
    have hsj6 := hsj5.tsame (TSame.below hbl6)
    refine WS.call rfl (forestOf_any hsj6.2.1.rd hsm.2.2.2.1 hsm.2.1) ?_
    rintro v7 w7 ⟨⟨vs7, o7⟩, hbl7⟩
    have hz7 := hbl7.size
    have hS7 := hS6.trans (Below.mono hbl7 (by omega))
    refine ⟨hS7, ?_⟩
    have r6 := o6.roo.tsame (TSame.below hbl7)
    have r7 := o7.roo
    obtain ⟨a6, c6, hv6⟩ := r6.shape
    obtain ⟨a7, c7, hv7⟩ := r7.shape
    subst hv6 hv7
    refine WS.op rfl (o_build (us := [.slice a6 (insSort ltT sC).length c6, .slice a7 (insSort ltT sT).length c7, .int .i64 1]) (cells := [.slice a6 (insSort ltT sC).length c6, .slice a7 (insSort ltT sT).length c7, .int .i64 1]) (by rfl) (by rfl) ?_)
    refine ⟨hS7, ?_⟩
    have om7 := om4.below hS7 (Nat.le_refl _)
    have hAm7 := hAm4.tsame (TSame.below hS7)
    obtain ⟨g7, c7', hv7', _, _, _, _, hob⟩ := om7.place (i := i) (t := (sc, st, sn)) (by rw [List.getElem?_eq_getElem hlit, hsE])
    simp only [Value.slice.injEq] at hv7'
    obtain ⟨rfl, _, rfl⟩ := hv7'
    refine WS.q rfl (q_ix3 (i := (i : Int)) (by rfl) (by rfl) (by omega) (by omega)) hS7 ?_
    rw [Nat.zero_add, Int.toNat_natCast]
    refine WS.last rfl (o_store3 (i := i) (tr := (.slice a6 (insSort ltT sC).length c6, .slice a7 (insSort ltT sT).length c7, .int .i64 1)) (by rfl) (by rfl) om7 (by rw [List.getElem?_eq_getElem hlit]) ⟨rfl, rfl, rfl⟩ ?_)
    intro w8 om8 hbut8
    have hz8 := hbut8.size
    refine WS.nil ?_
    obtain ⟨cur7, hcur7⟩ := om7.elem hob
    have hts8 := TSame.but (e := 22) (e2 := 2) hbut8 hcur7 (by decide) (by decide)
    have hA8 : SplG w8 (tm.set i (.slice a6 (insSort ltT sC).length c6, .slice a7 (insSort ltT sT).length c7, .int .i64 1)) ((ys.map sortN).take (i + 1) ++ ys.drop (i + 1)) := by
      rw [← hstep]
      exact (hAm7.tsame hts8).set ⟨r6.tsame hts8, r7.tsame hts8, rfl⟩
    repeat' (first|refine X.O ?_|refine X.A ?_|refine X.B ?_|refine X.C ?_|refine X.D ?_|refine X.E ?_|refine X.F ?_|refine X.G ?_|refine X.H ?_|refine X.I ?_|fail)
    exact ⟨i + 1, ⟨rfl, rfl, rfl, (by first|rfl|exact X.T (by omega)), trivial⟩, ⟨by omega, ⟨_, om8, hA8⟩, ((hbl2.trans (Below.mono hbl24 (by omega))).trans (Below.mono hS7 (by omega))).trans (hbut8.below (om7.block g7 hob).1)⟩, by omega⟩
  · rename_i hge
    have hie : i = ys.length := by omega
    subst hie
    rw [List.drop_length, List.append_nil, List.take_of_length_le (by rw [List.length_map]; omega), hmm] at hAm
    have hZl : (sortC (xs.map sortF)).length = ts.length := by rw [(sortC_perm _).length_eq, List.length_map]; omega
    have hZm : ∀ s ∈ sortC (xs.map sortF), s.1.flatten.length ≤ 1000000000 := fun s hs => by
      obtain ⟨y, hy, rfl⟩ := List.mem_map.1 ((sortC_perm _).mem_iff.1 hs)
      have := (hok y hy).2.2.2.2
      show (insSort ltT y.1).flatten.length ≤ _
      rw [insSort_flat]; exact this
    repeat' (first|refine X.O ?_|refine X.A ?_|refine X.B ?_|refine X.C ?_|refine X.D ?_|refine X.E ?_|refine X.F ?_|refine X.G ?_|refine X.H ?_|refine X.I ?_|fail)
    refine WL.call (sortSplits_any om hAm.plain (by omega) (fun s hs => by
      obtain ⟨y, hy, rfl⟩ := List.mem_map.1 hs
      have := (hok y hy).2.2.2.2
      show (insSort ltT y.1).flatten.length ≤ _
      rw [insSort_flat]; exact this) (by omega)) ?_
    rintro _ w3 ⟨rfl, ⟨tz, oz, hAz⟩, hbl3, _⟩
    have hz3 := hbl3.size
    obtain ⟨Z, hZ⟩ : ∃ Z, sortC (xs.map sortF) = Z := ⟨_, rfl⟩
    rw [hZ] at hAz hZl hZm hgl
    have htz := hAz.1
    have hGo := groupC_ok (Z := Z)
    repeat' (first|refine X.O ?_|refine X.A ?_|refine X.B ?_|refine X.C ?_|refine X.D ?_|refine X.E ?_|refine X.F ?_|refine X.G ?_|refine X.H ?_|refine X.I ?_|fail)
    refine WL.step (o_lit30 ?_)
    intro v4 w4 hown4 hbl4 hz4
    repeat' (first|refine X.O ?_|refine X.A ?_|refine X.B ?_|refine X.C ?_|refine X.D ?_|refine X.E ?_|refine X.F ?_|refine X.G ?_|refine X.H ?_|refine X.I ?_|fail)
    refine WL.step (o_len3 (by rfl) ?_)
    repeat' (first|refine X.O ?_|refine X.A ?_|refine X.B ?_|refine X.C ?_|refine X.D ?_|refine X.E ?_|refine X.F ?_|refine X.G ?_|refine X.H ?_|refine X.I ?_|fail)
    refine WP.loop (fun (s : Nat × Value) => [(0, .slice a ts.length c), (5, .func (.func 88) #[] #[]), (6, s.2), (32, .slice a ts.length c), (33, .int .i64 (ts.length : Nat)), (34, .int .i64 (s.1 : Nat))])
      (fun s w5 => s.1 ≤ Z.length ∧ (∃ to, Own3 w3.heap.size 88 w5 s.2 to ∧ SplG w5 to (groupC (Z.take s.1))) ∧ Below w3.heap.size w3 w5)
      (fun s => Z.length - s.1) (0, v4) ⟨rfl, rfl, rfl, rfl, rfl, rfl, trivial⟩ ⟨by dsimp only; omega, ⟨[], hown4, by rw [List.take_zero]; exact SplG.nil _⟩, hbl4⟩ ?_
    rintro ⟨j, vo⟩ w5 ⟨hj1, ⟨to, oo, hAo⟩, hbl5⟩
    dsimp only at hj1 oo hAo ⊢
    have hz5 := hbl5.size
    obtain ⟨ao, co, hvo, _⟩ := oo.shape
    obtain ⟨hGj, hGl⟩ := hGo j hj1
    repeat' (first|refine X.O ?_|refine X.A ?_|refine X.B ?_|refine X.C ?_|refine X.D ?_|refine X.E ?_|refine X.F ?_|refine X.G ?_|refine X.H ?_|refine X.I ?_|fail)
    first|refine X.J (fun _ => ?_) (fun _ => ?_)|refine X.L (fun _ => ?_) (fun _ => ?_)|refine X.M (fun _ => ?_) (fun _ => ?_)|refine X.R (fun _ => ?_) (fun _ => ?_)|fail
    · rename_i hltj
      have hlj : j < Z.length := by omega
      have hljt : j < tz.length := by omega
      have hgs := groupC_succ hlj
      have hZj := hZm _ (List.getElem_mem hlj)
      obtain ⟨G, hG⟩ : ∃ G, groupC (Z.take j) = G := ⟨_, rfl⟩
      rw [hG] at hAo hGj hGl hgs
      have hsj := (hAz.tsame (TSame.below hbl5)).2 j _ _ (List.getElem?_eq_getElem hljt) (List.getElem?_eq_getElem hlj)
      have hol := hAo.1
      repeat' (first|refine X.O ?_|refine X.A ?_|refine X.B ?_|refine X.C ?_|refine X.D ?_|refine X.E ?_|refine X.F ?_|refine X.G ?_|refine X.H ?_|refine X.I ?_|fail)
      refine WL.ixload3 (j := j) (oz.below hbl5 (Nat.le_refl _)) (List.getElem?_eq_getElem hljt) ?_
      intro p2
      obtain ⟨⟨sc, st, sn⟩, hsE⟩ : ∃ s, tz[j] = s := ⟨_, rfl⟩
      rw [hsE] at hsj ⊢
      obtain ⟨⟨sC, sT⟩, hxE⟩ : ∃ s, Z[j] = s := ⟨_, rfl⟩
      rw [hxE] at hsj hgs hZj
      have hsn : sn = .int .i64 1 := hsj.2.2
      subst hsn
      refine WL.var (vs := [sc, st, .int .i64 1]) (fun _ => by rfl) (by rfl) (fun x hx => by
        have h1 := hsj.one
        simp only [List.mem_cons, List.not_mem_nil, or_false] at hx
        rcases hx with rfl | rfl | rfl
        · exact h1.1
        · exact h1.2.1
        · rfl) ?_
      intro w6 hb8 hbl6 hz6
      have oo6 := oo.below hbl6 (Nat.le_refl _)
      have hAo6 := hAo.tsame (TSame.below hbl6)
      have hsj6 := hsj.tsame (TSame.below hbl6)
      subst hvo
      repeat' (first|refine X.O ?_|refine X.A ?_|refine X.B ?_|refine X.C ?_|refine X.D ?_|refine X.E ?_|refine X.F ?_|refine X.G ?_|refine X.H ?_|refine X.I ?_|fail)
      refine WL.step (o_len3 (by rfl) ?_)
      repeat' (first|refine X.O ?_|refine X.A ?_|refine X.B ?_|refine X.C ?_|refine X.D ?_|refine X.E ?_|refine X.F ?_|refine X.G ?_|refine X.H ?_|refine X.I ?_|fail)
      by_cases hemp : G.length = 0
      · have hG0 : G = [] := List.eq_nil_of_length_eq_zero hemp
        have ht0 : to = [] := List.eq_nil_of_length_eq_zero (by omega)
        subst hG0 ht0
        rw [addC_nil] at hgs
        refine WP.drawn (fun w' => w'.heap = w6.heap) [(0, true), (1, true), (2, true), (3, true), (4, true), (5, true), (6, true), (7, true), (8, true), (9, true), (10, true), (11, true), (12, true)] (by kernel_rfl) mixed ?_
        intro w7 hs7
        have hS7 : w7.heap = w6.heap := hs7.heap
        repeat' (first|refine X.Z rfl ?_|refine X.U rfl ?_|refine WS.nil ?_|fail)
        repeat' (first|refine X.O ?_|refine X.A ?_|refine X.B ?_|refine X.C ?_|refine X.D ?_|refine X.E ?_|refine X.F ?_|refine X.G ?_|refine X.H ?_|refine X.I ?_|fail)
        refine WL.step (o_loadS (by rfl) (hb8.still hs7) (by rfl) ?_)
        have hsj7 := hsj6.tsame (TSame.still hs7)
        have oo7 := oo6.still hs7
        have hz7 := hs7.size
        refine WL.app3 (tr := (sc, st, .int .i64 1)) (fun _ => by rfl) (by rfl) oo7 hsj7.one (by simp [maxLen]) (by simp) (by omega) ?_
        intro p3 v8 w8 hap _
        have hz8 := hap.bel.size
        have hts8 := hap.tsame (e1 := 22) (e2 := 2) oo7 (by decide) (by decide)
        have hA8 : SplG w8 ([] ++ [(sc, st, .int .i64 1)]) ([] ++ [(sC, sT, 1)]) := (SplG.nil w8).snoc (hsj7.tsame hts8)
        repeat' (first|refine X.O ?_|refine X.A ?_|refine X.B ?_|refine X.C ?_|refine X.D ?_|refine X.E ?_|refine X.F ?_|refine X.G ?_|refine X.H ?_|refine X.I ?_|fail)
        refine ⟨(j + 1, v8), ⟨rfl, rfl, rfl, rfl, rfl, (by first|rfl|exact X.T (by omega)), trivial⟩, ⟨by dsimp only; omega, ⟨_, hap.own, by dsimp only; rw [hgs]; exact hA8⟩, ((hbl5.trans (Below.mono hbl6 (by omega))).trans (hs7.below _)).trans hap.bel⟩, by dsimp only; omega⟩
      · have hGp : 0 < G.length := by omega
        have hle : to.length - 1 < to.length := by omega
        have hlG : G.length - 1 < G.length := by omega
        have hge : to.length - 1 = G.length - 1 := by omega
        have hlast := hAo6.2 (to.length - 1) _ _ (List.getElem?_eq_getElem hle) (by rw [hge]; exact List.getElem?_eq_getElem hlG)
        have hgok := hGj _ (List.getElem_mem hlG)
        have haeq := fun h => addC_eq (out := G) (s := (sC, sT)) hGp h
        have hane := fun h => addC_ne (out := G) (s := (sC, sT)) hGp h
        obtain ⟨⟨oc, ot, onn⟩, hoE⟩ : ∃ s, to[to.length - 1] = s := ⟨_, rfl⟩
        rw [hoE] at hlast
        obtain ⟨⟨oC, oT, oN⟩, hyE⟩ : ∃ s, G[G.length - 1] = s := ⟨_, rfl⟩
        rw [hyE] at hlast hgok haeq hane
        have hon : onn = .int .i64 oN := hlast.2.2
        subst hon
        have hoCl := hZm _ hgok.1
        dsimp only at hgok hoCl
        refine WP.drawn (fun w' => Below w6.heap.size w6 w') [(0, true), (1, true), (2, true), (3, true), (4, true), (5, true), (6, true), (7, true), (8, true), (9, true), (10, false), (11, true), (12, true)] (by kernel_rfl) mixed ?_
        intro w7 hs7
        have hz7 := hs7.size
        have hS7 : Below w6.heap.size w6 w7 := hs7.below _
        refine WS.q rfl (q_s (by rfl)) hS7 ?_
        refine WS.q rfl (q_s (by rfl)) hS7 ?_
        rw [decide_eq_true (show (0 : Int) < (to.length : Nat) by omega)]
        repeat' (first|refine X.U rfl ?_|refine X.V rfl ?_|refine X.W rfl ?_|refine X.Y rfl ?_|refine X.Z rfl ?_|refine WS.nil ?_|fail)
        refine WS.ixload3 (j := to.length - 1) rfl rfl (fun w' h => oo6.below h (Nat.le_refl _)) (by rw [List.getElem?_eq_getElem hle]) hS7 ?_
        intro p3
        rw [hoE]
        refine WS.q rfl (q_loadS (by rfl) (fun w' h => hb8.below h (by omega)) (by rfl)) hS7 ?_
        have hlast7 := hlast.tsame (TSame.below hS7)
        have hsj7 := hsj6.tsame (TSame.below hS7)
        refine WS.op rfl (o_callV (f := 88) (fst := []) (cap := []) (by rfl) (vs := [.agg #[oc, ot, .int .i64 oN], .agg #[sc, st, .int .i64 1]]) (cutCmp_eq (x := (oC, oT, oN)) (y := (sC, sT, 1)) hlast7.1.rd hlast7.2.1.rd hsj7.1.rd hsj7.2.1.rd hoCl hZj) ?_)
        rintro _ w8 ⟨rfl, o1, o2, rfl⟩
        have hbl8 : Below w7.heap.size w7 ((w7.alloc o1).alloc o2) := (below_alloc w7 o1).trans (Below.mono (below_alloc _ o2) (by simp))
        obtain ⟨w8, hw8⟩ : ∃ w8, (w7.alloc o1).alloc o2 = w8 := ⟨_, rfl⟩
        rw [hw8] at hbl8 ⊢
        have hz8 := hbl8.size
        have hS8 := hS7.trans (Below.mono hbl8 (by omega))
        refine ⟨hS8, ?_⟩
        have hcs : cmpS (oC, oT, oN) (sC, sT, 1) = cmpC (oC, oT) (sC, sT) := rfl
        rw [hcs]
        repeat' (first|refine X.Z rfl ?_|refine X.U rfl ?_|refine WS.nil ?_|fail)
        have oo8 := oo6.below hS8 (Nat.le_refl _)
        have hAo8 := hAo6.tsame (TSame.below hS8)
        have hsj8 := hsj6.tsame (TSame.below hS8)
        repeat' (first|refine X.O ?_|refine X.A ?_|refine X.B ?_|refine X.C ?_|refine X.D ?_|refine X.E ?_|refine X.F ?_|refine X.G ?_|refine X.H ?_|refine X.I ?_|fail)
        first|refine X.J (fun _ => ?_) (fun _ => ?_)|refine X.L (fun _ => ?_) (fun _ => ?_)|refine X.M (fun _ => ?_) (fun _ => ?_)|refine X.R (fun _ => ?_) (fun _ => ?_)|fail
        · rename_i heq
          have hgs2 := haeq heq
          rw [hgs2] at hgs
          repeat' (first|refine X.O ?_|refine X.A ?_|refine X.B ?_|refine X.C ?_|refine X.D ?_|refine X.E ?_|refine X.F ?_|refine X.G ?_|refine X.H ?_|refine X.I ?_|fail)
          refine WL.ixfld3 (j := to.length - 1) (off := 2) oo8 (by rw [List.getElem?_eq_getElem hle, hoE]) (by rfl) ?_
          intro p4 q4
          repeat' (first|refine X.O ?_|refine X.A ?_|refine X.B ?_|refine X.C ?_|refine X.D ?_|refine X.E ?_|refine X.F ?_|refine X.G ?_|refine X.H ?_|refine X.I ?_|fail)
          refine WL.ixfst3 (j := to.length - 1) (off := 2) oo8 (by rw [List.getElem?_eq_getElem hle, hoE]) (by omega) ?_
          intro p5 q5 g w9 hg hown9 hbut9
          obtain ⟨cur8, hcur8⟩ := oo8.elem hg
          have hts9 := TSame.but (e := 22) (e2 := 2) hbut9 hcur8 (by decide) (by decide)
          have hl8 := hlast.tsame ((TSame.below hS8).trans hts9)
          have hA9 : SplG w9 (to.set (to.length - 1) (Tri.put (oc, ot, Value.int .i64 oN) 2 (.int .i64 (oN + 1)))) (G.set (G.length - 1) (oC, oT, oN + 1)) := by
            rw [hge]
            exact (hAo8.tsame hts9).set ⟨hl8.1, hl8.2.1, rfl⟩
          repeat' (first|refine X.O ?_|refine X.A ?_|refine X.B ?_|refine X.C ?_|refine X.D ?_|refine X.E ?_|refine X.F ?_|refine X.G ?_|refine X.H ?_|refine X.I ?_|fail)
          refine ⟨(j + 1, .slice ao to.length co), ⟨rfl, rfl, rfl, rfl, rfl, (by first|rfl|exact X.T (by omega)), trivial⟩, ⟨by dsimp only; omega, ⟨_, hown9, by dsimp only; rw [hgs]; exact hA9⟩, ((hbl5.trans (Below.mono hbl6 (by omega))).trans (Below.mono hS8 (by omega))).trans (hbut9.below (oo8.block g hg).1)⟩, by dsimp only; omega⟩
        · rename_i heq
          have hgs2 := hane heq
          rw [hgs2] at hgs
          repeat' (first|refine X.O ?_|refine X.A ?_|refine X.B ?_|refine X.C ?_|refine X.D ?_|refine X.E ?_|refine X.F ?_|refine X.G ?_|refine X.H ?_|refine X.I ?_|fail)
          refine WL.step (o_loadS (by rfl) (hb8.below hS8 (by omega)) (by rfl) ?_)
          refine WL.app3 (tr := (sc, st, .int .i64 1)) (fun _ => by rfl) (by rfl) oo8 hsj8.one (by unfold maxLen; omega) (by omega) (by omega) ?_
          intro p3 v9 w9 hap _
          have hts9 := hap.tsame (e1 := 22) (e2 := 2) oo8 (by decide) (by decide)
          have hA9 := (hAo8.tsame hts9).snoc (x := (sC, sT, 1)) (hsj8.tsame hts9)
          repeat' (first|refine X.O ?_|refine X.A ?_|refine X.B ?_|refine X.C ?_|refine X.D ?_|refine X.E ?_|refine X.F ?_|refine X.G ?_|refine X.H ?_|refine X.I ?_|fail)
          refine ⟨(j + 1, v9), ⟨rfl, rfl, rfl, rfl, rfl, (by first|rfl|exact X.T (by omega)), trivial⟩, ⟨by dsimp only; omega, ⟨_, hap.own, by dsimp only; rw [hgs]; exact hA9⟩, ((hbl5.trans (Below.mono hbl6 (by omega))).trans (Below.mono hS8 (by omega))).trans hap.bel⟩, by dsimp only; omega⟩
    · rename_i hgej
      have hje : j = Z.length := by omega
      subst hje
      rw [List.take_length, ← hgl] at hAo
      repeat' (first|refine X.O ?_|refine X.A ?_|refine X.B ?_|refine X.C ?_|refine X.D ?_|refine X.E ?_|refine X.F ?_|refine X.G ?_|refine X.H ?_|refine X.I ?_|fail)
      refine ⟨_, ret1 rfl (by rfl), ?_⟩
      exact ⟨⟨_, oo.lower (by omega), hAo⟩, (hbl2.trans hbl3).trans (Below.mono hbl5 (by omega))⟩
end Go.Proofs
/- The cuts of a tree, cutsOf; the place of a tree in maps, by slices.BinarySearchFunc. -/
set_option maxRecDepth 8000
namespace Go.Rk
open Go.Fw Go.Proofs
/-- Each pair of the list is in order. -/
def sortedB (l : For) : Bool := (List.range l.length).all fun j => (List.range j).all fun i => decide (cmpT (l[i]?.getD []) (l[j]?.getD []) < 0)
set_option maxRecDepth 100000 in
theorem treesTo_sortedB : sortedB (treesTo 6) = true := by kernel_rfl
theorem treesTo_sorted {i j : Nat} (hij : i < j) (hj : j < (treesTo 6).length) : cmpT ((treesTo 6)[i]'(by omega)) ((treesTo 6)[j]) < 0 := by
  have h := List.all_eq_true.1 (List.all_eq_true.1 treesTo_sortedB j (List.mem_range.2 hj)) i (List.mem_range.2 hij)
  rw [decide_eq_true_eq, List.getElem?_eq_getElem hj, List.getElem?_eq_getElem (by omega : i < (treesTo 6).length)] at h
  exact h
theorem placeT_get {t : List Int} (h : t ∈ treesTo 6) : placeT t - 1 < (treesTo 6).length ∧ ∀ h' : placeT t - 1 < (treesTo 6).length, (treesTo 6)[placeT t - 1] = t := by
  have h1 : (treesTo 6).idxOf t < (treesTo 6).length := List.idxOf_lt_length_of_mem h
  unfold placeT
  exact ⟨by omega, fun _ => by simp⟩
theorem placeT_pos (t : List Int) : 1 ≤ placeT t := by unfold placeT; omega
theorem placeT_le {t : List Int} (h : t ∈ treesTo 6) : placeT t ≤ 37 := by have := (placeT_get h).1; rw [treesTo_len] at this; omega
/-- The cuts of the trees of maps have trees of maps. -/
def goodCuts (t : List Int) : Bool := (cutsL t).all fun c => (c.1.all fun b => (treesTo 6).contains b) && (c.2.1 == [] || (treesTo 6).contains c.2.1) && decide (0 ≤ c.2.2 ∧ c.2.2 ≤ 100) && decide (c.1.length ≤ 10)
set_option maxRecDepth 100000 in
theorem goodCuts_all : ((treesTo 6).all fun t => goodCuts t && decide ((cutsL t).length ≤ 100)) = true := by kernel_rfl
theorem goodCuts_len {t : List Int} (ht : t ∈ treesTo 6) : (cutsL t).length ≤ 100 := by
  have h := List.all_eq_true.1 goodCuts_all t ht
  rw [Bool.and_eq_true, decide_eq_true_eq] at h
  exact h.2
theorem goodCuts_of {t : List Int} (ht : t ∈ treesTo 6) {c : CutD} (hc : c ∈ cutsL t) : (∀ b ∈ c.1, b ∈ treesTo 6) ∧ (c.2.1 = [] ∨ c.2.1 ∈ treesTo 6) ∧ (0 ≤ c.2.2 ∧ c.2.2 ≤ 100) ∧ c.1.length ≤ 10 := by
  have h := List.all_eq_true.1 goodCuts_all t ht
  rw [Bool.and_eq_true] at h
  have h2 := List.all_eq_true.1 h.1 c hc
  simp only [Bool.and_eq_true, decide_eq_true_eq, Bool.or_eq_true, beq_iff_eq] at h2
  refine ⟨fun b hb => ?_, ?_, h2.1.2, h2.2⟩
  · have := List.all_eq_true.1 h2.1.1.1 b hb
    simpa using this
  · rcases h2.1.1.2 with h3 | h3
    · exact Or.inl h3
    · exact Or.inr (by simpa using h3)
end Go.Rk
namespace Go.Proofs
open Go Go.Fw Go.RowKit Go.Rk
/-- A cut of a tree in memory. -/
def CutR (w : World) (t : Tri) (x : CutD) : Prop := Roo 22 2 w t.1 x.1 ∧ (∃ lo, Own lo 2 w t.2.1 (Ints x.2.1)) ∧ t.2.2 = .int .i64 x.2.2
theorem CutR.tsame {w w' : World} {t : Tri} {x : CutD} (h : CutR w t x) (hs : TSame 22 2 w w') : CutR w' t x := ⟨h.1.tsame hs, by obtain ⟨lo, h2⟩ := h.2.1; exact ⟨lo, h2.tsame hs (Or.inr rfl)⟩, h.2.2⟩
theorem CutR.one {w : World} {t : Tri} {x : CutD} (h : CutR w t x) : t.one := by
  obtain ⟨a, c, h1⟩ := h.1.shape
  obtain ⟨lo, h2⟩ := h.2.1
  obtain ⟨a', c', h3, _⟩ := h2.shape
  exact ⟨by rw [h1]; rfl, by rw [h3]; rfl, by rw [h.2.2]; rfl⟩
def CutA (w : World) (ts : List Tri) (xs : List CutD) : Prop := ts.length = xs.length ∧ ∀ (i : Nat) t x, ts[i]? = some t → xs[i]? = some x → CutR w t x
theorem CutA.tsame {w w' : World} {ts : List Tri} {xs : List CutD} (h : CutA w ts xs) (hs : TSame 22 2 w w') : CutA w' ts xs := ⟨h.1, fun i t x ht hx => (h.2 i t x ht hx).tsame hs⟩
theorem CutA.snoc {w : World} {ts : List Tri} {xs : List CutD} {t : Tri} {x : CutD} (h : CutA w ts xs) (hr : CutR w t x) : CutA w (ts ++ [t]) (xs ++ [x]) := by
  refine ⟨by simp [h.1], fun i u y hu hy => ?_⟩
  rw [List.getElem?_append] at hu hy
  rw [← h.1] at hy
  split at hu
  · rename_i hi; rw [if_pos hi] at hy; exact h.2 i u y hu hy
  · rename_i hi
    rw [if_neg hi] at hy
    rcases Nat.eq_zero_or_pos (i - ts.length) with h0 | h0
    · rw [h0] at hu hy; simp at hu hy; subst hu hy; exact hr
    · rw [List.getElem?_eq_none (by simp; omega)] at hu; cases hu
theorem CutA.nil (w : World) : CutA w [] [] := ⟨rfl, fun i t x h => by simp at h⟩
set_option maxHeartbeats 1000000 in
theorem cutsOf_any {lo hi : Nat} {w : World} {v : Value} {t : List Int} (h : IS lo hi w v t) (ht : Lv t) (h8 : t.length ≤ 8) :
    Does Try.prog 53 [v] w fun r w' => (∃ ts, Own3 w.heap.size 70 w' r ts ∧ CutA w' ts (cutsL t)) ∧ Below w.heap.size w w' := by
  have hz := h.hi_le
  obtain ⟨hso, hsl⟩ := splitF_ok 8 ht h8 h8
  have h256 : (splitF 8 t).length ≤ 256 := Nat.le_trans hsl (Nat.pow_le_pow_right (by omega) h8)
  have hcl : cutsL t = (gatherL (splitF 8 t)).map cutF := rfl
  have hgo := groupC_ok (Z := sortC ((splitF 8 t).map sortF)) _ (Nat.le_refl _)
  rw [List.take_length] at hgo
  have hgl : (gatherL (splitF 8 t)).length ≤ 256 := by
    have h1 := hgo.2
    rw [(sortC_perm _).length_eq, List.length_map] at h1
    exact Nat.le_trans h1 h256
  have hne : 1 ≤ (splitF 8 t).length := by rw [splitF_succ]; simp
  refine Does.enter Try.func53 Try.ntmps53 rfl (by rfl) ?_
  repeat' (first|refine X.O ?_|refine X.A ?_|refine X.B ?_|refine X.C ?_|refine X.D ?_|refine X.E ?_|refine X.F ?_|refine X.G ?_|refine X.H ?_|refine X.I ?_|fail)
  refine WL.step (o_lit30 ?_)
  intro v1 w1 hown1 hbl1 hz1
  repeat' (first|refine X.O ?_|refine X.A ?_|refine X.B ?_|refine X.C ?_|refine X.D ?_|refine X.E ?_|refine X.F ?_|refine X.G ?_|refine X.H ?_|refine X.I ?_|fail)
  refine WL.call (splitTree_any 8 (h.below RI.stable hbl1 hz) ht h8 h8) ?_
  rintro v2 w2 ⟨⟨ts2, o2, hA2⟩, hbl2⟩
  have hz2 := hbl2.size
  have hl2 := hA2.1
  repeat' (first|refine X.O ?_|refine X.A ?_|refine X.B ?_|refine X.C ?_|refine X.D ?_|refine X.E ?_|refine X.F ?_|refine X.G ?_|refine X.H ?_|refine X.I ?_|fail)
  refine WL.call (gathered_any o2 hA2 (by omega) (fun x hx => (hso x hx).small (by omega)) (by omega) (by omega)) ?_
  rintro v3 w3 ⟨⟨ts3, o3, hA3⟩, hbl3⟩
  have hz3 := hbl3.size
  have hbl03 : Below w.heap.size w w3 := (hbl1.trans (Below.mono hbl2 (by omega))).trans (Below.mono hbl3 (by omega))
  have hbl13 : Below w1.heap.size w1 w3 := hbl2.trans hbl3
  obtain ⟨G, hG⟩ : ∃ G, gatherL (splitF 8 t) = G := ⟨_, rfl⟩
  rw [hG] at hA3 hcl hgl
  have hl3 := hA3.1
  obtain ⟨a3, c3, hv3, _⟩ := o3.shape
  subst hv3
  repeat' (first|refine X.O ?_|refine X.A ?_|refine X.B ?_|refine X.C ?_|refine X.D ?_|refine X.E ?_|refine X.F ?_|refine X.G ?_|refine X.H ?_|refine X.I ?_|fail)
  refine WL.step (o_len3 (by rfl) ?_)
  repeat' (first|refine X.O ?_|refine X.A ?_|refine X.B ?_|refine X.C ?_|refine X.D ?_|refine X.E ?_|refine X.F ?_|refine X.G ?_|refine X.H ?_|refine X.I ?_|fail)
  refine WP.loop (fun (s : Nat × Value) => [(3, s.2), (10, .slice a3 ts3.length c3), (11, .int .i64 (ts3.length : Nat)), (12, .int .i64 (s.1 : Nat))])
    (fun s w4 => s.1 ≤ G.length ∧ (∃ to, Own3 w.heap.size 70 w4 s.2 to ∧ CutA w4 to ((G.take s.1).map cutF)) ∧ (∀ k, s.2.ownBlock = some k → k < w1.heap.size ∨ w3.heap.size ≤ k) ∧ Same w1.heap.size w3.heap.size w3 w4 ∧ TSame 22 2 w3 w4 ∧ Below w.heap.size w w4)
    (fun s => G.length - s.1) (0, v1) ⟨rfl, rfl, rfl, rfl, trivial⟩ ⟨by dsimp only; omega, ⟨[], hown1.below hbl13 (Nat.le_refl _), by rw [List.take_zero]; exact CutA.nil _⟩, fun k hk => Or.inl (hown1.block k hk).2, fun _ _ _ => rfl, TSame.refl _ _ _, hbl03⟩ ?_
  rintro ⟨i, vo⟩ w4 ⟨hi1, ⟨to, oo, hAo⟩, hbk, hsm4, hts4, hbl4⟩
  dsimp only at hi1 oo hAo hbk ⊢
  have hz4 := hts4.size
  have hol : to.length = i := by rw [hAo.1, List.length_map, List.length_take]; omega
  repeat' (first|refine X.O ?_|refine X.A ?_|refine X.B ?_|refine X.C ?_|refine X.D ?_|refine X.E ?_|refine X.F ?_|refine X.G ?_|refine X.H ?_|refine X.I ?_|fail)
  first|refine X.J (fun _ => ?_) (fun _ => ?_)|refine X.L (fun _ => ?_) (fun _ => ?_)|refine X.M (fun _ => ?_) (fun _ => ?_)|refine X.R (fun _ => ?_) (fun _ => ?_)|fail
  · rename_i hlt
    have hli : i < G.length := by omega
    have hlit : i < ts3.length := by omega
    have o34 : Own3 w2.heap.size 88 w4 (.slice a3 ts3.length c3) ts3 := o3.keep fun b hb => hsm4 b (by have := (o3.block b hb).1; omega) (o3.block b hb).2
    have hsj := (hA3.tsame hts4).2 i _ _ (List.getElem?_eq_getElem hlit) (List.getElem?_eq_getElem hli)
    have hst : (G.take (i + 1)).map cutF = (G.take i).map cutF ++ [cutF G[i]] := by rw [List.take_succ_eq_append_getElem hli, List.map_append]; rfl
    repeat' (first|refine X.O ?_|refine X.A ?_|refine X.B ?_|refine X.C ?_|refine X.D ?_|refine X.E ?_|refine X.F ?_|refine X.G ?_|refine X.H ?_|refine X.I ?_|fail)
    refine WL.ixload3 (j := i) o34 (List.getElem?_eq_getElem hlit) ?_
    intro p2
    obtain ⟨⟨sc, st, sn⟩, hsE⟩ : ∃ s, ts3[i] = s := ⟨_, rfl⟩
    rw [hsE] at hsj ⊢
    obtain ⟨⟨sC, sT, sN⟩, hxE⟩ : ∃ s, G[i] = s := ⟨_, rfl⟩
    rw [hxE] at hsj hst
    have hsn : sn = .int .i64 sN := hsj.2.2
    subst hsn
    refine WL.var (vs := [sc, st, .int .i64 sN]) (fun _ => by rfl) (by rfl) (fun x hx => by
      have h1 := hsj.one
      simp only [List.mem_cons, List.not_mem_nil, or_false] at hx
      rcases hx with rfl | rfl | rfl
      · exact h1.1
      · exact h1.2.1
      · rfl) ?_
    intro w5 hb5 hbl5 hz5
    have hsj5 := hsj.tsame (TSame.below hbl5)
    obtain ⟨ac, cc, hsc⟩ := hsj5.1.shape
    obtain ⟨at2, ct2, hst2⟩ := hsj5.2.1.shape
    dsimp only at hsc hst2
    subst hsc hst2
    repeat' (first|refine X.O ?_|refine X.A ?_|refine X.B ?_|refine X.C ?_|refine X.D ?_|refine X.E ?_|refine X.F ?_|refine X.G ?_|refine X.H ?_|refine X.I ?_|fail)
    refine WL.fld hb5 ?_
    intro q1
    refine WL.fld hb5 ?_
    intro q2
    refine WL.step (o_build (us := [.slice ac sC.length cc, .int .i64 sN]) (cells := [.slice ac sC.length cc, .slice none 0 0, .int .i64 sN]) (by rfl) (by rfl) ?_)
    refine WL.var (vs := [.slice ac sC.length cc, .slice none 0 0, .int .i64 sN]) (fun _ => by rfl) (by rfl) (fun x hx => by
      simp only [List.mem_cons, List.not_mem_nil, or_false] at hx
      rcases hx with rfl | rfl | rfl <;> rfl) ?_
    intro w6 hb6 hbl6 hz6
    have hb56 := hb5.below hbl6 (by omega)
    have hsj6 := hsj5.tsame (TSame.below hbl6)
    have hbl46 : Below w4.heap.size w4 w6 := hbl5.trans (Below.mono hbl6 (by omega))
    have oo6 := oo.below hbl46 (Nat.le_refl _)
    have hAo6 := hAo.tsame (TSame.below hbl46)
    repeat' (first|refine X.O ?_|refine X.A ?_|refine X.B ?_|refine X.C ?_|refine X.D ?_|refine X.E ?_|refine X.F ?_|refine X.G ?_|refine X.H ?_|refine X.I ?_|fail)
    refine WL.fld hb56 ?_
    intro q3
    repeat' (first|refine X.O ?_|refine X.A ?_|refine X.B ?_|refine X.C ?_|refine X.D ?_|refine X.E ?_|refine X.F ?_|refine X.G ?_|refine X.H ?_|refine X.I ?_|fail)
    have tail : ∀ (v9 : Value) (w9 : World), CutR w9 (.slice ac sC.length cc, v9, .int .i64 sN) (cutF (sC, sT, sN)) → Own3 w.heap.size 70 w9 vo to → CutA w9 to ((G.take i).map cutF) → Below w4.heap.size w4 w9 → TSame 22 2 w4 w9 →
        ∀ (v' : Value) (w' : World), App3 w.heap.size 70 vo v' (to ++ [(.slice ac sC.length cc, v9, .int .i64 sN)]) w9 w' →
        i + 1 ≤ G.length ∧ (∃ to', Own3 w.heap.size 70 w' v' to' ∧ CutA w' to' ((G.take (i + 1)).map cutF)) ∧ (∀ k, v'.ownBlock = some k → k < w1.heap.size ∨ w3.heap.size ≤ k) ∧ Same w1.heap.size w3.heap.size w3 w' ∧ TSame 22 2 w3 w' ∧ Below w.heap.size w w' := fun v9 w9 hr ho hA hbl hts v' w' hap => by
      have hts9 := hap.tsame (e1 := 22) (e2 := 2) ho (by decide) (by decide)
      have hz9 := hbl.size
      refine ⟨by omega, ⟨_, hap.own, ?_⟩, fun k hk => ?_, fun b hb1 hb2 => ?_, (hts4.trans hts).trans hts9, (hbl4.trans (Below.mono hbl (by have := hbl4.size; omega))).trans hap.bel⟩
      · rw [hst]; exact (hA.tsame hts9).snoc (hr.tsame hts9)
      · rcases hap.blk k hk with h1 | h1
        · exact hbk k h1
        · exact Or.inr (by omega)
      · rw [hap.out b (by omega) (fun e => by rcases hbk b e with h1 | h1 <;> omega), hbl.block b (by omega)]
        exact hsm4 b hb1 hb2
    first|refine X.J (fun _ => ?_) (fun _ => ?_)|refine X.L (fun _ => ?_) (fun _ => ?_)|refine X.M (fun _ => ?_) (fun _ => ?_)|refine X.R (fun _ => ?_) (fun _ => ?_)|fail
    · rename_i hpos
      obtain ⟨lo6, vs6, ho6, hl6, hr6⟩ := hsj6.2.1
      dsimp only at ho6 hl6 hr6
      have hp6 : 0 < vs6.length := by omega
      have hpT : 0 < sT.length := by omega
      obtain ⟨lo7, ho7⟩ := hr6 0 _ _ (List.getElem?_eq_getElem hp6) (List.getElem?_eq_getElem hpT)
      have hS6 : SL (fun _ _ _ u x => u = x) 0 w6.heap.size w6 (.slice at2 sT.length ct2) vs6 := ho6.toSL rfl (Nat.zero_le _) (fun k hk => (ho6.block k hk).2) (Nat.le_refl _) fun i u x hu hx => by rw [hu] at hx; simpa using hx
      repeat' (first|refine X.O ?_|refine X.A ?_|refine X.B ?_|refine X.C ?_|refine X.D ?_|refine X.E ?_|refine X.F ?_|refine X.G ?_|refine X.H ?_|refine X.I ?_|fail)
      refine WL.fld hb56 ?_
      intro q4
      refine WL.ixload (j := 0) hS6 (List.getElem?_eq_getElem hp6) ?_
      rintro q5 _ rfl
      obtain ⟨a7, c7, hv7, _⟩ := ho7.shape
      refine WL.fldst hb6 ?_ (hu := by rw [hv7]; rfl)
      intro q6 w7 hb7 hbut7
      have hz7 := hbut7.size
      repeat' (first|refine X.O ?_|refine X.A ?_|refine X.B ?_|refine X.C ?_|refine X.D ?_|refine X.E ?_|refine X.F ?_|refine X.G ?_|refine X.H ?_|refine X.I ?_|fail)
      refine WL.step (o_loadS (by rfl) hb7 (by rfl) ?_)
      have hbl47 : Below w4.heap.size w4 w7 := hbl46.trans (hbut7.below (by omega))
      have hts67 : TSame 22 2 w6 w7 := TSame.but hbut7 hb6 (by decide) (by decide)
      have hcut : cutF (sC, sT, sN) = (sC, sT[0], sN) := by
        unfold cutF
        cases sT with
        | nil => simp at hpT
        | cons x r => rfl
      have hcr : CutR w7 (.slice ac sC.length cc, vs6[0], .int .i64 sN) (cutF (sC, sT, sN)) := by
        rw [hcut]
        exact ⟨hsj6.1.tsame hts67, ⟨lo7, ho7.tsame hts67 (Or.inr rfl)⟩, rfl⟩
      have oo7 := oo.below hbl47 (Nat.le_refl _)
      refine WL.app3 (tr := (.slice ac sC.length cc, vs6[0], .int .i64 sN)) (fun _ => by rfl) (by rfl) oo7 hcr.one (by unfold maxLen; omega) (by omega) (by have := hbl4.size; omega) ?_
      intro q7 v8 w8 hap _
      have htl := tail vs6[0] w7 hcr oo7 (hAo.tsame (TSame.below hbl47)) hbl47 (TSame.below hbl47) v8 w8 hap
      repeat' (first|refine X.O ?_|refine X.A ?_|refine X.B ?_|refine X.C ?_|refine X.D ?_|refine X.E ?_|refine X.F ?_|refine X.G ?_|refine X.H ?_|refine X.I ?_|fail)
      exact ⟨(i + 1, v8), ⟨rfl, rfl, rfl, (by first|rfl|exact X.T (by omega)), trivial⟩, htl, by dsimp only; omega⟩
    · rename_i hpos
      have hT0 : sT = [] := List.eq_nil_of_length_eq_zero (by omega)
      subst hT0
      repeat' (first|refine X.O ?_|refine X.A ?_|refine X.B ?_|refine X.C ?_|refine X.D ?_|refine X.E ?_|refine X.F ?_|refine X.G ?_|refine X.H ?_|refine X.I ?_|fail)
      refine WL.step (o_loadS (by rfl) hb6 (by rfl) ?_)
      have hcr : CutR w6 (.slice ac sC.length cc, .slice none 0 0, .int .i64 sN) (cutF (sC, [], sN)) := ⟨hsj6.1, ⟨0, Own.nil _ _ _⟩, rfl⟩
      refine WL.app3 (tr := (.slice ac sC.length cc, .slice none 0 0, .int .i64 sN)) (fun _ => by rfl) (by rfl) oo6 hcr.one (by unfold maxLen; omega) (by omega) (by have := hbl4.size; omega) ?_
      intro q7 v8 w8 hap _
      have htl := tail _ w6 hcr oo6 hAo6 hbl46 (TSame.below hbl46) v8 w8 hap
      repeat' (first|refine X.O ?_|refine X.A ?_|refine X.B ?_|refine X.C ?_|refine X.D ?_|refine X.E ?_|refine X.F ?_|refine X.G ?_|refine X.H ?_|refine X.I ?_|fail)
      exact ⟨(i + 1, v8), ⟨rfl, rfl, rfl, (by first|rfl|exact X.T (by omega)), trivial⟩, htl, by dsimp only; omega⟩
  · rename_i hge
    have hie : i = G.length := by omega
    subst hie
    rw [List.take_length, ← hcl] at hAo
    repeat' (first|refine X.O ?_|refine X.A ?_|refine X.B ?_|refine X.C ?_|refine X.D ?_|refine X.E ?_|refine X.F ?_|refine X.G ?_|refine X.H ?_|refine X.I ?_|fail)
    refine ⟨_, ret1 rfl (by rfl), ?_⟩
    exact ⟨⟨_, oo, hAo⟩, hbl4⟩
theorem BinarySearchFunc_any {lo hi lo' hi' : Nat} {w : World} {v v' : Value} {xss : For} {t : List Int} (h : ISS lo hi w v xss) (h' : IS lo' hi' w v' t) {k : Nat} (hk : k < xss.length) (he : xss[k] = t)
    (hlow : ∀ i (hi : i < k), cmpT (xss[i]'(by omega)) t < 0) (hup : ∀ i (_ : k ≤ i) (hi : i < xss.length), 0 ≤ cmpT xss[i] t) (hn : xss.length ≤ 1000) :
    Does Try.prog 93 [v, v', .func (.func 94) #[] #[]] w fun r w' => r = .tuple #[.int .i64 (k : Nat), .bool true] ∧ w = w' := by
  obtain ⟨a, c, hv⟩ := h.shape
  obtain ⟨a', c', hv'⟩ := h'.shape
  subst hv hv'
  have hc0 : cmpT xss[k] t = 0 := by rw [he]; exact ord_cmpT.refl t
  refine Does.enter Try.func93 Try.ntmps93 rfl (by rfl) ?_
  repeat' (first|refine X.O ?_|refine X.A ?_|refine X.B ?_|refine X.C ?_|refine X.D ?_|refine X.E ?_|refine X.F ?_|refine X.G ?_|refine X.H ?_|refine X.I ?_|fail)
  refine WP.loop (fun (s : Nat × Nat) => [(0, .slice a xss.length c), (1, .slice a' t.length c'), (2, .func (.func 94) #[] #[]), (8, .int .i64 (xss.length : Nat)), (9, .int .i64 (s.1 : Nat)), (10, .int .i64 (s.2 : Nat))])
    (fun s w2 => s.1 ≤ k ∧ k ≤ s.2 ∧ s.2 ≤ xss.length ∧ w = w2) (fun s => s.2 - s.1) (0, xss.length) ⟨rfl, rfl, rfl, rfl, rfl, rfl, trivial⟩ ⟨by dsimp only; omega, by dsimp only; omega, by dsimp only; omega, rfl⟩ ?_
  rintro ⟨i, j⟩ _ ⟨hi1, hj1, hj2, rfl⟩
  dsimp only at hi1 hj1 hj2 ⊢
  repeat' (first|refine X.O ?_|refine X.A ?_|refine X.B ?_|refine X.C ?_|refine X.D ?_|refine X.E ?_|refine X.F ?_|refine X.G ?_|refine X.H ?_|refine X.I ?_|fail)
  first|refine X.J (fun _ => ?_) (fun _ => ?_)|refine X.L (fun _ => ?_) (fun _ => ?_)|refine X.M (fun _ => ?_) (fun _ => ?_)|refine X.R (fun _ => ?_) (fun _ => ?_)|fail
  · rename_i hlt
    obtain ⟨m, hm⟩ : ∃ m : Nat, m = (i + j) / 2 := ⟨_, rfl⟩
    have hml : m < xss.length := by omega
    repeat' (first|refine X.O ?_|refine X.A ?_|refine X.B ?_|refine X.C ?_|refine X.D ?_|refine X.E ?_|refine X.F ?_|refine X.G ?_|refine X.H ?_|refine X.I ?_|fail)
    refine WL.step (o_convK (b := (i : Int) + (j : Int)) (by rfl) (wrap_u64 (by omega) (by omega)) ?_)
    refine WL.step (o_bin (v := .int .u64 (((i : Int) + (j : Int)).fdiv (2 ^ 1))) (by rfl) (by rfl) (fun w => by simp [binOp, Op.shift, IntKind.bits]) (fun w => run_eqGuardInt .u64 _ _ _) ?_)
    have hfd : ((i : Int) + (j : Int)).fdiv (2 ^ 1) = (m : Nat) := by
      rw [Int.fdiv_eq_ediv_of_nonneg _ (by decide)]
      omega
    rw [hfd]
    refine WL.step (o_convK (b := (m : Nat)) (by rfl) (wrap_in (by unfold InI; omega)) ?_)
    repeat' (first|refine X.O ?_|refine X.A ?_|refine X.B ?_|refine X.C ?_|refine X.D ?_|refine X.E ?_|refine X.F ?_|refine X.G ?_|refine X.H ?_|refine X.I ?_|fail)
    refine WL.ixload (j := m) h (List.getElem?_eq_getElem hml) ?_
    intro p u hu
    repeat' (first|refine X.O ?_|refine X.A ?_|refine X.B ?_|refine X.C ?_|refine X.D ?_|refine X.E ?_|refine X.F ?_|refine X.G ?_|refine X.H ?_|refine X.I ?_|fail)
    refine WL.step (o_callV (f := 94) (fst := []) (cap := []) (by rfl) (vs := [u, .slice a' t.length c']) (compareTrees_eq hu h') ?_)
    rintro _ _ ⟨rfl, rfl⟩
    repeat' (first|refine X.O ?_|refine X.A ?_|refine X.B ?_|refine X.C ?_|refine X.D ?_|refine X.E ?_|refine X.F ?_|refine X.G ?_|refine X.H ?_|refine X.I ?_|fail)
    first|refine X.J (fun _ => ?_) (fun _ => ?_)|refine X.L (fun _ => ?_) (fun _ => ?_)|refine X.M (fun _ => ?_) (fun _ => ?_)|refine X.R (fun _ => ?_) (fun _ => ?_)|fail
    · rename_i hneg
      have hmk : m < k := by
        rcases Nat.lt_or_ge m k with h1 | h1
        · exact h1
        · have := hup m h1 hml; omega
      repeat' (first|refine X.O ?_|refine X.A ?_|refine X.B ?_|refine X.C ?_|refine X.D ?_|refine X.E ?_|refine X.F ?_|refine X.G ?_|refine X.H ?_|refine X.I ?_|fail)
      exact ⟨(m + 1, j), ⟨rfl, rfl, rfl, rfl, (by first|rfl|exact X.T (by omega)), rfl, trivial⟩, ⟨by dsimp only; omega, by dsimp only; omega, by dsimp only; omega, rfl⟩, by dsimp only; omega⟩
    · rename_i hneg
      have hmk : k ≤ m := by
        rcases Nat.lt_or_ge m k with h1 | h1
        · have := hlow m h1; omega
        · exact h1
      repeat' (first|refine X.O ?_|refine X.A ?_|refine X.B ?_|refine X.C ?_|refine X.D ?_|refine X.E ?_|refine X.F ?_|refine X.G ?_|refine X.H ?_|refine X.I ?_|fail)
      exact ⟨(i, m), ⟨rfl, rfl, rfl, rfl, rfl, rfl, trivial⟩, ⟨by dsimp only; omega, by dsimp only; omega, by dsimp only; omega, rfl⟩, by dsimp only; omega⟩
  · rename_i hge
    have hik : i = k := by omega
    subst hik
    repeat' (first|refine X.O ?_|refine X.A ?_|refine X.B ?_|refine X.C ?_|refine X.D ?_|refine X.E ?_|refine X.F ?_|refine X.G ?_|refine X.H ?_|refine X.I ?_|fail)
    rw [decide_eq_true (show (i : Int) < (xss.length : Nat) by omega)]
    repeat' (first|refine X.O ?_|refine X.A ?_|refine X.B ?_|refine X.C ?_|refine X.D ?_|refine X.E ?_|refine X.F ?_|refine X.G ?_|refine X.H ?_|refine X.I ?_|fail)
    refine WL.ixload (j := i) h (List.getElem?_eq_getElem hk) ?_
    intro p u hu
    repeat' (first|refine X.O ?_|refine X.A ?_|refine X.B ?_|refine X.C ?_|refine X.D ?_|refine X.E ?_|refine X.F ?_|refine X.G ?_|refine X.H ?_|refine X.I ?_|fail)
    refine WL.step (o_callV (f := 94) (fst := []) (cap := []) (by rfl) (vs := [u, .slice a' t.length c']) (compareTrees_eq hu h') ?_)
    rintro _ _ ⟨rfl, rfl⟩
    repeat' (first|refine X.O ?_|refine X.A ?_|refine X.B ?_|refine X.C ?_|refine X.D ?_|refine X.E ?_|refine X.F ?_|refine X.G ?_|refine X.H ?_|refine X.I ?_|fail)
    refine ⟨_, ret2 rfl (by rfl) (by rfl), ?_⟩
    exact ⟨by rw [hc0]; rfl, rfl⟩
theorem indexIn_any {lo hi lo' hi' : Nat} {w : World} {v v' : Value} {t : List Int} (h : ISS lo hi w v (treesTo 6)) (h' : IS lo' hi' w v' t) (ht : t ∈ treesTo 6) :
    Does Try.prog 76 [v, v'] w fun r w' => r = .int .i64 ((placeT t : Nat) - 1) ∧ w = w' := by
  obtain ⟨hp, hg⟩ := placeT_get ht
  have h1 := placeT_pos t
  have hl := treesTo_len
  refine Does.enter Try.func76 Try.ntmps76 rfl (by rfl) ?_
  repeat' (first|refine X.O ?_|refine X.A ?_|refine X.B ?_|refine X.C ?_|refine X.D ?_|refine X.E ?_|refine X.F ?_|refine X.G ?_|refine X.H ?_|refine X.I ?_|fail)
  refine WL.call (BinarySearchFunc_any h h' hp (hg hp) (fun i hi => by have := treesTo_sorted hi hp; rw [hg hp] at this; exact this) (fun i hki hil => by
    rcases Nat.lt_or_ge (placeT t - 1) i with h2 | h2
    · have := treesTo_sorted h2 hil
      rw [hg hp] at this
      have := (ord_cmpT.anti _ _).1 this
      omega
    · have : i = placeT t - 1 := by omega
      subst this
      rw [hg hp, ord_cmpT.refl]; omega) (by omega)) ?_
  rintro _ _ ⟨rfl, rfl⟩
  repeat' (first|refine X.O ?_|refine X.A ?_|refine X.B ?_|refine X.C ?_|refine X.D ?_|refine X.E ?_|refine X.F ?_|refine X.G ?_|refine X.H ?_|refine X.I ?_|fail)
  refine ⟨_, ret1 rfl (by rfl), ?_⟩
  exact ⟨congrArg (Value.int .i64) (by omega), rfl⟩
theorem place_any {lo hi lo' hi' : Nat} {w : World} {vt vc v' : Value} {t : List Int} (h : ISS lo hi w vt (treesTo 6)) (h' : IS lo' hi' w v' t) (ht : t ∈ treesTo 6) :
    Does Try.prog 54 [.agg #[vt, vc], v'] w fun r w' => r = .int .i64 (placeT t : Nat) ∧ Below w.heap.size w w' := by
  have hz := h.hi_le
  have hz' := h'.hi_le
  have h1 := placeT_pos t
  have h2 := placeT_le ht
  refine Does.enter Try.func54 Try.ntmps54 rfl (by rfl) ?_
  repeat' (first|refine X.O ?_|refine X.A ?_|refine X.B ?_|refine X.C ?_|refine X.D ?_|refine X.E ?_|refine X.F ?_|refine X.G ?_|refine X.H ?_|refine X.I ?_|fail)
  refine WL.step (o_box (by rfl) ?_)
  intro w1 hb1 hbl1 hz1
  have hb1' : Blk w1 w.heap.size [vt, vc] _ := hb1
  repeat' (first|refine X.O ?_|refine X.A ?_|refine X.B ?_|refine X.C ?_|refine X.D ?_|refine X.E ?_|refine X.F ?_|refine X.G ?_|refine X.H ?_|refine X.I ?_|fail)
  refine WL.fld hb1' ?_
  intro p1
  repeat' (first|refine X.O ?_|refine X.A ?_|refine X.B ?_|refine X.C ?_|refine X.D ?_|refine X.E ?_|refine X.F ?_|refine X.G ?_|refine X.H ?_|refine X.I ?_|fail)
  refine WL.call (indexIn_any (h.below IS.stable hbl1 hz) (h'.below RI.stable hbl1 hz') ht) ?_
  rintro _ _ ⟨rfl, rfl⟩
  repeat' (first|refine X.O ?_|refine X.A ?_|refine X.B ?_|refine X.C ?_|refine X.D ?_|refine X.E ?_|refine X.F ?_|refine X.G ?_|refine X.H ?_|refine X.I ?_|fail)
  refine ⟨_, ret1 rfl (by rfl), ?_⟩
  exact ⟨congrArg (Value.int .i64) (by omega), hbl1⟩
end Go.Proofs
/- What maps need to know: newForms; a table of cuts in memory. -/
set_option maxRecDepth 8000
namespace Go.Fw
open Go Go.RowKit Go.Rk
/-- A row of cuts that is read. -/
def RC (lo hi : Nat) (w : World) (v : Value) (rs : List RowD) : Prop :=
  hi ≤ w.heap.size ∧ ∃ a c, v = .slice a rs.length c ∧ rs.length ≤ maxLen ∧ ∀ (i : Nat) r, rs[i]? = some r → ∃ b o vc, a = some ⟨b, o, none⟩ ∧ lo ≤ b ∧ b < hi ∧
    (∀ j u, [Value.int .i64 r.1, vc, .int .i64 (r.2.2 : Nat)][j]? = some u → w.cell? ⟨b, o + i * 3 + j, none⟩ = some u) ∧ IS lo hi w vc (r.2.1.map fun (k : Nat) => (k : Int))
theorem RC.stable : Stable RC := by
  refine ⟨fun lo hi w w' u xs hs hz h => ?_, fun lo hi lo' hi' w u xs h1 h2 hz h => ?_⟩
  · obtain ⟨_, a, c, rfl, hl, h⟩ := h
    refine ⟨hz, a, c, rfl, hl, fun i x hx => ?_⟩
    obtain ⟨b, o, vc, ha, hb1, hb2, hc, hr⟩ := h i x hx
    exact ⟨b, o, vc, ha, hb1, hb2, fun j u hu => by rw [World.cell?_of_block (hs b hb1 hb2)]; exact hc j u hu, SL.same RI.stable hr hs hz⟩
  · obtain ⟨_, a, c, rfl, hl, h⟩ := h
    refine ⟨hz, a, c, rfl, hl, fun i x hx => ?_⟩
    obtain ⟨b, o, vc, ha, hb1, hb2, hc, hr⟩ := h i x hx
    exact ⟨b, o, vc, ha, by omega, by omega, hc, SL.wide RI.stable hr h1 h2 hz⟩
/-- A table of cuts that is read. -/
abbrev TB := SL RC
theorem RC.shape {lo hi : Nat} {w : World} {v : Value} {rs : List RowD} (h : RC lo hi w v rs) : ∃ a c, v = .slice a rs.length c := by obtain ⟨_, a, c, h, _⟩ := h; exact ⟨a, c, h⟩
/-- Rows of other types than e are as they were. -/
structure TBut (e : TypeId) (w w' : World) : Prop where
  size : w.heap.size ≤ w'.heap.size
  row : ∀ (k : Nat) (cur : Array Value) (t : TypeId), w.heap[k]? = some (Obj.cells cur t (0, 0)) → t ≠ e → w'.heap[k]? = w.heap[k]?
theorem TBut.refl (e : TypeId) (w : World) : TBut e w w := ⟨Nat.le_refl _, fun _ _ _ _ _ => rfl⟩
theorem TBut.trans {e : TypeId} {a b c : World} (h : TBut e a b) (h' : TBut e b c) : TBut e a c :=
  ⟨Nat.le_trans h.size h'.size, fun k cur t hk ht => (h'.row k cur t (by rw [h.row k cur t hk ht]; exact hk) ht).trans (h.row k cur t hk ht)⟩
theorem TBut.below {e : TypeId} {w w' : World} (h : Below w.heap.size w w') : TBut e w w' := ⟨h.size, fun k _ _ hk _ => h.block k (Array.getElem?_eq_some_iff.1 hk).1⟩
theorem TBut.same {e e1 e2 : TypeId} {w w' : World} (h : TBut e w w') (h1 : e1 ≠ e) (h2 : e2 ≠ e) : TSame e1 e2 w w' := ⟨h.size, fun k cur t hk ht => h.row k cur t hk (by rcases ht with rfl | rfl <;> assumption)⟩
theorem TBut.app3 {lo : Nat} {e : TypeId} {v v' : Value} {ts ts' : List Tri} {w w' : World} (h : App3 lo e v v' ts' w w') (ho : Own3 lo e w v ts) : TBut e w w' :=
  ⟨h.bel.size, fun k cur t hk ht => h.out k (Array.getElem?_eq_some_iff.1 hk).1 fun e' => by
    obtain ⟨c2, hc⟩ := ho.elem e'
    rw [hc] at hk
    simp only [Option.some.injEq, Obj.cells.injEq] at hk
    exact ht hk.2.1.symm⟩
theorem Own3.tsame {e e2 e' lo : Nat} {w w' : World} {v : Value} {ts : List Tri} (h : Own3 lo e' w v ts) (hs : TSame e e2 w w') (he : e' = e ∨ e' = e2) : Own3 lo e' w' v ts :=
  h.keep fun k hk => by
    obtain ⟨cur, hc⟩ := h.elem hk
    exact hs.row k cur e' hc he
/-- A cut by places, in memory that the call owns; e: what its places are kept in. -/
def MC (e : TypeId) (w : World) (t : Tri) (r : RowD) : Prop := t.1 = .int .i64 r.1 ∧ (∃ lo, Own lo e w t.2.1 (Ints (r.2.1.map fun (k : Nat) => (k : Int)))) ∧ t.2.2 = .int .i64 (r.2.2 : Nat)
def MCs (e : TypeId) (w : World) (ts : List Tri) (rs : List RowD) : Prop := ts.length = rs.length ∧ ∀ (i : Nat) t r, ts[i]? = some t → rs[i]? = some r → MC e w t r
/-- A row of cuts by places; e3: what it is kept in. -/
def MRow (e3 e : TypeId) (w : World) (v : Value) (rs : List RowD) : Prop := ∃ lo ts, Own3 lo e3 w v ts ∧ MCs e w ts rs
theorem MC.one {e : TypeId} {w : World} {t : Tri} {r : RowD} (h : MC e w t r) : t.one := by
  obtain ⟨lo, h2⟩ := h.2.1
  obtain ⟨a', c', h3, _⟩ := h2.shape
  exact ⟨by rw [h.1]; rfl, by rw [h3]; rfl, by rw [h.2.2]; rfl⟩
theorem MC.tsame {e e1 e2 : TypeId} {w w' : World} {t : Tri} {r : RowD} (h : MC e w t r) (hs : TSame e1 e2 w w') (he : e = e1 ∨ e = e2) : MC e w' t r := ⟨h.1, by obtain ⟨lo, h2⟩ := h.2.1; exact ⟨lo, h2.tsame hs he⟩, h.2.2⟩
theorem MCs.tsame {e e1 e2 : TypeId} {w w' : World} {ts : List Tri} {rs : List RowD} (h : MCs e w ts rs) (hs : TSame e1 e2 w w') (he : e = e1 ∨ e = e2) : MCs e w' ts rs := ⟨h.1, fun i t r ht hr => (h.2 i t r ht hr).tsame hs he⟩
theorem MCs.nil (e : TypeId) (w : World) : MCs e w [] [] := ⟨rfl, fun i t x h => by simp at h⟩
theorem MCs.snoc {e : TypeId} {w : World} {ts : List Tri} {rs : List RowD} {t : Tri} {r : RowD} (h : MCs e w ts rs) (hr : MC e w t r) : MCs e w (ts ++ [t]) (rs ++ [r]) := by
  refine ⟨by simp [h.1], fun i u y hu hy => ?_⟩
  rw [List.getElem?_append] at hu hy
  rw [← h.1] at hy
  split at hu
  · rename_i hi; rw [if_pos hi] at hy; exact h.2 i u y hu hy
  · rename_i hi
    rw [if_neg hi] at hy
    rcases Nat.eq_zero_or_pos (i - ts.length) with h0 | h0
    · rw [h0] at hu hy; simp at hu hy; subst hu hy; exact hr
    · rw [List.getElem?_eq_none (by simp; omega)] at hu; cases hu
theorem MRow.tsame {e3 e : TypeId} {w w' : World} {v : Value} {rs : List RowD} (h : MRow e3 e w v rs) (hs : TSame e3 e w w') : MRow e3 e w' v rs := by
  obtain ⟨lo, ts, h1, h2⟩ := h
  exact ⟨lo, ts, h1.tsame hs (Or.inl rfl), h2.tsame hs (Or.inr rfl)⟩
theorem MRow.rc {e3 e : TypeId} {w : World} {v : Value} {rs : List RowD} (h : MRow e3 e w v rs) : RC 0 w.heap.size w v rs := by
  obtain ⟨lo, ts, h1, h2⟩ := h
  obtain ⟨a, c, hv, _, hm, _⟩ := h1.shape
  refine ⟨Nat.le_refl _, a, c, by rw [hv, h2.1], by rw [← h2.1]; exact hm, fun i r hr => ?_⟩
  have hi : i < ts.length := by rw [h2.1]; exact (List.getElem?_eq_some_iff.1 hr).1
  obtain ⟨g, c', hv', _, hlt, hcell, _, _⟩ := h1.place (List.getElem?_eq_getElem hi)
  rw [hv] at hv'
  simp only [Value.slice.injEq] at hv'
  have hmc := h2.2 i _ r (List.getElem?_eq_getElem hi) hr
  obtain ⟨lo', h3⟩ := hmc.2.1
  refine ⟨g, 0, ts[i].2.1, hv'.1, Nat.zero_le _, hlt, fun j u hu => ?_, h3.toIS (Nat.zero_le _)⟩
  rw [Nat.zero_add]
  refine hcell j u ?_
  unfold Tri.cells
  rw [hmc.1, hmc.2.2]
  exact hu
/-- A table of cuts in memory that the call owns. -/
def MTab (e4 e3 e : TypeId) (lo : Nat) (w : World) (v : Value) (tab : List (List RowD)) : Prop := ∃ vs, Own lo e4 w v vs ∧ vs.length = tab.length ∧ ∀ (i : Nat) u rs, vs[i]? = some u → tab[i]? = some rs → MRow e3 e w u rs
theorem MTab.tb {e4 e3 e : TypeId} {lo : Nat} {w : World} {v : Value} {tab : List (List RowD)} (h : MTab e4 e3 e lo w v tab) : TB 0 w.heap.size w v tab := by
  obtain ⟨vs, h1, h2, h3⟩ := h
  exact h1.toSL h2 (Nat.zero_le _) (fun k hk => (h1.block k hk).2) (Nat.le_refl _) fun i u rs hu hr => (h3 i u rs hu hr).rc
end Go.Fw
namespace Go.Proofs
open Go Go.Fw Go.RowKit Go.Rk
/-- The forms in memory, for reading. -/
def FormsI (lo hi : Nat) (w : World) (v : Value) : Prop := ∃ vt vc, v = .agg #[vt, vc] ∧ ISS lo hi w vt (treesTo 6) ∧ TB lo hi w vc cutLit
theorem FormsI.hi_le {lo hi : Nat} {w : World} {v : Value} (h : FormsI lo hi w v) : hi ≤ w.heap.size := by obtain ⟨_, _, _, h, _⟩ := h; exact h.hi_le
theorem FormsI.below {lo hi B : Nat} {w w' : World} {v : Value} (h : FormsI lo hi w v) (hb : Below B w w') (hB : hi ≤ B) : FormsI lo hi w' v := by
  obtain ⟨vt, vc, h1, h2, h3⟩ := h
  exact ⟨vt, vc, h1, h2.below IS.stable hb hB, h3.below RC.stable hb hB⟩
theorem FormsI.still {lo hi : Nat} {w w' : World} {v : Value} (h : FormsI lo hi w v) (hs : Still w w') : FormsI lo hi w' v := h.below (hs.below w.heap.size) h.hi_le
set_option maxHeartbeats 4000000 in
theorem newForms_any (w : World) : Does Try.prog 31 [] w fun r w' => FormsI 0 w'.heap.size w' r ∧ Below w.heap.size w w' := by
  have htl := treesTo_len
  have hlit := cutLit_eq
  have hll : cutLit.length = 37 := by rw [← hlit, List.length_map, htl]
  refine Does.enter Try.func31 Try.ntmps31 rfl (by rfl) ?_
  refine WP.seq ?_
  refine WP.region ?_
  refine WL.step (o_alloc ?_)
  intro w1 hb01 hbl1 hz1
  repeat' (first|refine X.O ?_|refine X.A ?_|refine X.B ?_|refine X.C ?_|refine X.D ?_|refine X.E ?_|refine X.F ?_|refine X.G ?_|refine X.H ?_|refine X.I ?_|fail)
  refine WL.call (treesTo_any 6 (by omega) _) ?_
  rintro vt w2 ⟨⟨vst, ot⟩, hbl2⟩
  have hz2 := hbl2.size
  have hT2 := ot.rd
  obtain ⟨at2, ct, hvt⟩ := hT2.shape
  rw [htl] at hvt
  subst hvt
  refine WL.step (o_build (us := [.slice at2 37 ct]) (cells := [.slice at2 37 ct, .slice none 0 0]) (by rfl) (by rfl) ?_)
  refine WL.var (vs := [.slice at2 37 ct, .slice none 0 0]) (fun _ => by rfl) (by rfl) (fun x hx => by
    simp only [List.mem_cons, List.not_mem_nil, or_false] at hx
    rcases hx with rfl | rfl <;> rfl) ?_
  intro w3 hb3 hbl3 hz3
  have hb03 := (hb01.below hbl2 (by omega)).below hbl3 (by omega)
  have hT3 := hT2.below IS.stable hbl3 (Nat.le_refl _)
  repeat' (first|refine X.O ?_|refine X.A ?_|refine X.B ?_|refine X.C ?_|refine X.D ?_|refine X.E ?_|refine X.F ?_|refine X.G ?_|refine X.H ?_|refine X.I ?_|fail)
  refine WL.fld hb3 ?_
  intro q0
  repeat' (first|refine X.O ?_|refine X.A ?_|refine X.B ?_|refine X.C ?_|refine X.D ?_|refine X.E ?_|refine X.F ?_|refine X.G ?_|refine X.H ?_|refine X.I ?_|fail)
  refine WP.loop (fun (i : Nat) => [(0, .pointer (some ⟨w.heap.size, 0, none⟩)), (1, .pointer (some ⟨w2.heap.size, 0, none⟩)), (13, .slice at2 37 ct), (14, .int .i64 37), (15, .int .i64 (i : Nat))])
    (fun i w4 => i ≤ 37 ∧ (∃ vc, Blk w4 w2.heap.size [.slice at2 37 ct, vc] 46 ∧ (∃ a n c, vc = .slice a n c) ∧ MTab 66 73 3 w3.heap.size w4 vc (cutLit.take i)) ∧ Below w2.heap.size w3 w4)
    (fun i => 37 - i) 0 ⟨rfl, rfl, rfl, rfl, rfl, trivial⟩ ⟨by omega, ⟨.slice none 0 0, hb3, ⟨_, _, _, rfl⟩, ⟨[], Own.nil _ _ _, by simp, fun i u rs hu => by simp at hu⟩⟩, Below.refl _ _⟩ ?_
  rintro i w4 ⟨hi1, ⟨vc, hb14, ⟨avc, nvc, cvc, hvc⟩, hM4⟩, hbl4⟩
  have hz4 := hbl4.size
  have hT4 := hT3.below IS.stable hbl4 (Nat.le_refl _)
  repeat' (first|refine X.O ?_|refine X.A ?_|refine X.B ?_|refine X.C ?_|refine X.D ?_|refine X.E ?_|refine X.F ?_|refine X.G ?_|refine X.H ?_|refine X.I ?_|fail)
  first|refine X.J (fun _ => ?_) (fun _ => ?_)|refine X.L (fun _ => ?_) (fun _ => ?_)|refine X.M (fun _ => ?_) (fun _ => ?_)|refine X.R (fun _ => ?_) (fun _ => ?_)|fail
  · rename_i hlt
    have hli : i < (treesTo 6).length := by omega
    have hlc : i < cutLit.length := by omega
    have hmem : (treesTo 6)[i] ∈ treesTo 6 := List.getElem_mem hli
    have hok := treesTo_ok (n := 6) (by omega) _ hmem
    have hrow : (cutsL (treesTo 6)[i]).map mapCutF = cutLit[i] := by
      have : cutLit[i]? = some ((cutsL (treesTo 6)[i]).map mapCutF) := by rw [← hlit, List.getElem?_map, List.getElem?_eq_getElem hli]; rfl
      rw [List.getElem?_eq_getElem hlc] at this
      exact (Option.some.inj this).symm
    have hgl := goodCuts_len hmem
    have hgc := fun c => goodCuts_of (c := c) hmem
    obtain ⟨t, ht⟩ : ∃ t, (treesTo 6)[i] = t := ⟨_, rfl⟩
    rw [ht] at hok hrow hgl hgc
    repeat' (first|refine X.O ?_|refine X.A ?_|refine X.B ?_|refine X.C ?_|refine X.D ?_|refine X.E ?_|refine X.F ?_|refine X.G ?_|refine X.H ?_|refine X.I ?_|fail)
    refine WL.ixload (j := i) hT4 (List.getElem?_eq_getElem hli) ?_
    intro p1 u hu
    replace hu : IS w1.heap.size w2.heap.size w4 u t := by rw [← ht]; exact hu
    repeat' (first|refine X.O ?_|refine X.A ?_|refine X.B ?_|refine X.C ?_|refine X.D ?_|refine X.E ?_|refine X.F ?_|refine X.G ?_|refine X.H ?_|refine X.I ?_|fail)
    refine WL.step (o_lit30 ?_)
    intro v5 w5 hown5 hbl5 hz5
    repeat' (first|refine X.O ?_|refine X.A ?_|refine X.B ?_|refine X.C ?_|refine X.D ?_|refine X.E ?_|refine X.F ?_|refine X.G ?_|refine X.H ?_|refine X.I ?_|fail)
    refine WL.call (cutsOf_any (hu.below RI.stable hbl5 (by omega)) hok.1 (by omega)) ?_
    rintro v6 w6 ⟨⟨ts6, o6, hA6⟩, hbl6⟩
    have hz6 := hbl6.size
    have hl6 := hA6.1
    obtain ⟨C, hC⟩ : ∃ C, cutsL t = C := ⟨_, rfl⟩
    rw [hC] at hA6 hl6 hrow hgl hgc
    obtain ⟨a6, c6, hv6, _⟩ := o6.shape
    subst hv6
    have hbl46 : Below w4.heap.size w4 w6 := hbl5.trans (Below.mono hbl6 (by omega))
    repeat' (first|refine X.O ?_|refine X.A ?_|refine X.B ?_|refine X.C ?_|refine X.D ?_|refine X.E ?_|refine X.F ?_|refine X.G ?_|refine X.H ?_|refine X.I ?_|fail)
    refine WL.step (o_len3 (by rfl) ?_)
    repeat' (first|refine X.O ?_|refine X.A ?_|refine X.B ?_|refine X.C ?_|refine X.D ?_|refine X.E ?_|refine X.F ?_|refine X.G ?_|refine X.H ?_|refine X.I ?_|fail)
    refine WP.loop (fun (s : Nat × Value) => [(0, .pointer (some ⟨w.heap.size, 0, none⟩)), (1, .pointer (some ⟨w2.heap.size, 0, none⟩)), (4, s.2), (13, .slice at2 37 ct), (14, .int .i64 37), (15, .int .i64 (i : Nat)), (21, .slice a6 ts6.length c6), (22, .int .i64 (ts6.length : Nat)), (23, .int .i64 (s.1 : Nat))])
      (fun s w7 => s.1 ≤ C.length ∧ (∃ tl, Own3 w4.heap.size 73 w7 s.2 tl ∧ MCs 3 w7 tl ((C.take s.1).map mapCutF)) ∧ TBut 73 w6 w7 ∧ Below w4.heap.size w4 w7)
      (fun s => C.length - s.1) (0, v5) ⟨rfl, rfl, rfl, rfl, rfl, rfl, rfl, rfl, rfl, trivial⟩ ⟨by dsimp only; omega, ⟨[], hown5.below hbl6 (Nat.le_refl _), by rw [List.take_zero]; exact MCs.nil _ _⟩, TBut.refl _ _, hbl46⟩ ?_
    rintro ⟨j, vl⟩ w7 ⟨hj1, ⟨tl, ol, hMl⟩, htb7, hbl7⟩
    dsimp only at hj1 ol hMl ⊢
    have hz7 := htb7.size
    have hz47 := hbl7.size
    have hll2 : tl.length = j := by rw [hMl.1, List.length_map, List.length_take]; omega
    repeat' (first|refine X.O ?_|refine X.A ?_|refine X.B ?_|refine X.C ?_|refine X.D ?_|refine X.E ?_|refine X.F ?_|refine X.G ?_|refine X.H ?_|refine X.I ?_|fail)
    first|refine X.J (fun _ => ?_) (fun _ => ?_)|refine X.L (fun _ => ?_) (fun _ => ?_)|refine X.M (fun _ => ?_) (fun _ => ?_)|refine X.R (fun _ => ?_) (fun _ => ?_)|fail
    · rename_i hltj
      have hlj : j < C.length := by omega
      have hljt : j < ts6.length := by omega
      have hgcj := hgc _ (List.getElem_mem hlj)
      have hst : (C.take (j + 1)).map mapCutF = (C.take j).map mapCutF ++ [mapCutF C[j]] := by rw [List.take_succ_eq_append_getElem hlj, List.map_append]; rfl
      have hsj := (hA6.tsame (htb7.same (by decide) (by decide))).2 j _ _ (List.getElem?_eq_getElem hljt) (List.getElem?_eq_getElem hlj)
      repeat' (first|refine X.O ?_|refine X.A ?_|refine X.B ?_|refine X.C ?_|refine X.D ?_|refine X.E ?_|refine X.F ?_|refine X.G ?_|refine X.H ?_|refine X.I ?_|fail)
      refine WL.ixload3 (j := j) (o6.tsame (e := 70) (e2 := 70) (htb7.same (by decide) (by decide)) (Or.inl rfl)) (List.getElem?_eq_getElem hljt) ?_
      intro p2
      obtain ⟨⟨sc, st, sn⟩, hsE⟩ : ∃ s, ts6[j] = s := ⟨_, rfl⟩
      rw [hsE] at hsj ⊢
      obtain ⟨⟨cC, cT, cN⟩, hxE⟩ : ∃ s, C[j] = s := ⟨_, rfl⟩
      rw [hxE] at hsj hgcj hst
      dsimp only at hgcj
      have hsn : sn = .int .i64 cN := hsj.2.2
      subst hsn
      refine WL.var (vs := [sc, st, .int .i64 cN]) (fun _ => by rfl) (by rfl) (fun x hx => by
        have h1 := hsj.one
        simp only [List.mem_cons, List.not_mem_nil, or_false] at hx
        rcases hx with rfl | rfl | rfl
        · exact h1.1
        · exact h1.2.1
        · rfl) ?_
      intro w8 hb8 hbl8 hz8
      have hsj8 := hsj.tsame (TSame.below hbl8)
      obtain ⟨ac, cc, hsc⟩ := hsj8.1.shape
      dsimp only at hsc
      subst hsc
      repeat' (first|refine X.O ?_|refine X.A ?_|refine X.B ?_|refine X.C ?_|refine X.D ?_|refine X.E ?_|refine X.F ?_|refine X.G ?_|refine X.H ?_|refine X.I ?_|fail)
      refine WL.fld hb8 ?_
      intro q1
      refine WL.step (o_build (us := [.int .i64 cN]) (cells := [.int .i64 cN, .slice none 0 0, .int .i64 0]) (by rfl) (by rfl) ?_)
      refine WL.var (vs := [.int .i64 cN, .slice none 0 0, .int .i64 0]) (fun _ => by rfl) (by rfl) (fun x hx => by
        simp only [List.mem_cons, List.not_mem_nil, or_false] at hx
        rcases hx with rfl | rfl | rfl <;> rfl) ?_
      intro w9 hb9 hbl9 hz9
      have hb89 := hb8.below hbl9 (by omega)
      have hsj9 := hsj8.tsame (TSame.below hbl9)
      have hbl79 : Below w7.heap.size w7 w9 := hbl8.trans (Below.mono hbl9 (by omega))
      have hbl49 : Below w4.heap.size w4 w9 := hbl7.trans (Below.mono hbl79 (by omega))
      have hb19 := hb14.below hbl49 (by omega)
      repeat' (first|refine X.O ?_|refine X.A ?_|refine X.B ?_|refine X.C ?_|refine X.D ?_|refine X.E ?_|refine X.F ?_|refine X.G ?_|refine X.H ?_|refine X.I ?_|fail)
      refine WL.fld hb89 ?_
      intro q2
      repeat' (first|refine X.O ?_|refine X.A ?_|refine X.B ?_|refine X.C ?_|refine X.D ?_|refine X.E ?_|refine X.F ?_|refine X.G ?_|refine X.H ?_|refine X.I ?_|fail)
      refine WP.loop (fun (s : Nat × Value) => [(0, .pointer (some ⟨w.heap.size, 0, none⟩)), (1, .pointer (some ⟨w2.heap.size, 0, none⟩)), (4, vl), (6, .pointer (some ⟨w7.heap.size, 0, none⟩)), (7, .pointer (some ⟨w8.heap.size, 0, none⟩)), (13, .slice at2 37 ct), (14, .int .i64 37), (15, .int .i64 (i : Nat)), (21, .slice a6 ts6.length c6), (22, .int .i64 (ts6.length : Nat)), (23, .int .i64 (j : Nat)), (31, .slice ac cC.length cc), (32, .int .i64 (cC.length : Nat)), (33, .int .i64 (s.1 : Nat))])
        (fun s wk => s.1 ≤ cC.length ∧ Blk wk w8.heap.size [.int .i64 cN, s.2, .int .i64 0] 73 ∧ Own w9.heap.size 3 wk s.2 (Ints ((cC.take s.1).map fun b => ((placeT b : Nat) : Int))) ∧ Below w8.heap.size w9 wk)
        (fun s => cC.length - s.1) (0, .slice none 0 0) ⟨rfl, rfl, rfl, rfl, rfl, rfl, rfl, rfl, rfl, rfl, rfl, rfl, rfl, rfl, trivial⟩ ⟨by dsimp only; omega, hb9, Own.nil _ _ _, Below.refl _ _⟩ ?_
      rintro ⟨k, vk⟩ wk ⟨hk1, hbk, ok, hblk⟩
      dsimp only at hk1 hbk ok hblk ⊢
      have hzk := hblk.size
      have hlk2 : ((cC.take k).map fun b => ((placeT b : Nat) : Int)).length = k := by rw [List.length_map, List.length_take]; omega
      have hb8k := hb89.below hblk (by omega)
      have hb1k := hb19.below hblk (by omega)
      have hTk : ISS w1.heap.size w2.heap.size wk (.slice at2 37 ct) (treesTo 6) := ((hT4.below IS.stable hbl49 (by omega)).below IS.stable hblk (by omega))
      obtain ⟨avk, cvk, hvk, _⟩ := ok.shape
      repeat' (first|refine X.O ?_|refine X.A ?_|refine X.B ?_|refine X.C ?_|refine X.D ?_|refine X.E ?_|refine X.F ?_|refine X.G ?_|refine X.H ?_|refine X.I ?_|fail)
      first|refine X.J (fun _ => ?_) (fun _ => ?_)|refine X.L (fun _ => ?_) (fun _ => ?_)|refine X.M (fun _ => ?_) (fun _ => ?_)|refine X.R (fun _ => ?_) (fun _ => ?_)|fail
      · rename_i hltk
        have hlk : k < cC.length := by omega
        have hmb := hgcj.1 _ (List.getElem_mem hlk)
        have hblk9 : Below w9.heap.size w9 w9 := Below.refl _ _
        have hR9 := hsj9.1.rd
        have hRk : ISS 0 w8.heap.size wk (.slice ac cC.length cc) cC := (hsj8.1.rd.below IS.stable hbl9 (Nat.le_refl _)).below IS.stable hblk (Nat.le_refl _)
        repeat' (first|refine X.O ?_|refine X.A ?_|refine X.B ?_|refine X.C ?_|refine X.D ?_|refine X.E ?_|refine X.F ?_|refine X.G ?_|refine X.H ?_|refine X.I ?_|fail)
        refine WL.ixload (j := k) hRk (List.getElem?_eq_getElem hlk) ?_
        intro p3 u3 hu3
        repeat' (first|refine X.O ?_|refine X.A ?_|refine X.B ?_|refine X.C ?_|refine X.D ?_|refine X.E ?_|refine X.F ?_|refine X.G ?_|refine X.H ?_|refine X.I ?_|fail)
        refine WP.drawn (fun w' => Below w9.heap.size wk w') [(0, true), (1, true), (2, true), (3, true), (4, false), (5, false), (6, false), (7, true), (1008, false)] (by kernel_rfl) mixed ?_
        intro wa hsa
        have hza := hsa.size
        have hSa : Below w9.heap.size wk wa := hsa.below _
        refine WS.fld rfl rfl (fun w' h => hbk.below h (by omega)) hSa ?_
        intro q3
        refine WS.q rfl (q_loadS (by rfl) (fun w' h => hb1k.below h (by omega)) (by rfl)) hSa ?_
        refine WS.q rfl (q_s (by rfl)) hSa ?_
        refine WS.call rfl (place_any (vc := vc) (hTk.still IS.stable hsa) (hu3.still RI.stable hsa) hmb) ?_
        rintro _ wb ⟨rfl, hblb⟩
        have hzb := hblb.size
        have hSb : Below w9.heap.size wk wb := hSa.trans (Below.mono hblb (by omega))
        refine ⟨hSb, ?_⟩
        refine WS.op rfl (o_lit (us := [.int .i64 ((placeT cC[k] : Nat) : Int)]) (by rfl) (by rfl) rfl (by decide) (one1 rfl) ?_)
        intro vl2 wc hlc2 hblc hzc _
        have hSc : Below w9.heap.size wk wc := hSb.trans (Below.mono hblc (by omega))
        refine ⟨hSc, ?_⟩
        have okc := ((ok.still hsa).below hblb (by omega)).below hblc (by omega)
        refine WS.op rfl (o_append (us := Ints ((cC.take k).map fun b => ((placeT b : Nat) : Int))) (news := [.int .i64 ((placeT cC[k] : Nat) : Int)]) (by rfl) (by rfl) okc hlc2.src (one1 rfl) (by rw [Ints_length, hlk2]; simp [maxLen]; omega) (by rw [Ints_length, hlk2]; simp; omega) (by omega) ?_)
        intro vd wd okd hgd hbld _
        have hzd := hgd.size
        have hSd : Below w9.heap.size wk wd := hSc.trans hbld
        refine ⟨hSd, ?_⟩
        obtain ⟨avd, cvd, hvd, _⟩ := okd.shape
        have hbd := hbk.below hSd (by omega)
        refine WS.fldst (off := 1) rfl rfl hbd hSd ?_ (hu := by rw [hvd]; rfl)
        intro q4 we hbe hbute
        have hze := hbute.size
        refine WS.nil ?_
        have hint : Ints ((cC.take (k + 1)).map fun b => ((placeT b : Nat) : Int)) = Ints ((cC.take k).map fun b => ((placeT b : Nat) : Int)) ++ [.int .i64 ((placeT cC[k] : Nat) : Int)] := by
          rw [List.take_succ_eq_append_getElem hlk, List.map_append, Ints_append]; rfl
        repeat' (first|refine X.O ?_|refine X.A ?_|refine X.B ?_|refine X.C ?_|refine X.D ?_|refine X.E ?_|refine X.F ?_|refine X.G ?_|refine X.H ?_|refine X.I ?_|fail)
        refine ⟨(k + 1, vd), ⟨rfl, rfl, rfl, rfl, rfl, rfl, rfl, rfl, rfl, rfl, rfl, rfl, rfl, (by first|rfl|exact X.T (by omega)), trivial⟩, ⟨by dsimp only; omega, hbe, ?_, (hblk.trans (Below.mono hSd (by omega))).trans (hbute.below (Nat.le_refl _))⟩, by dsimp only; omega⟩
        dsimp only
        rw [hint]
        exact okd.keep fun b hb => hbute.block b (by have := (okd.block b hb).1; omega)
      · rename_i hgek
        have hke : k = cC.length := by omega
        subst hke
        rw [List.take_length] at ok
        have hmp : mapCutF (cC, cT, cN) = (cN, cC.map placeT, if cT = [] then 0 else placeT cT) := rfl
        have hcm : (cC.map fun b => ((placeT b : Nat) : Int)) = (cC.map placeT).map fun (n : Nat) => (n : Int) := by rw [List.map_map]; rfl
        rw [hcm] at ok
        have hsjk : CutR wk (.slice ac cC.length cc, st, .int .i64 cN) (cC, cT, cN) := hsj8.tsame ((TSame.below hbl9).trans ⟨hblk.size, fun b cur tt hcur htt => by
          rcases Nat.lt_or_ge b w8.heap.size with h1 | h1
          · exact hblk.block b h1
          · have hlt := (Array.getElem?_eq_some_iff.1 hcur).1
            have hbe : b = w8.heap.size := by omega
            subst hbe
            rw [hb9] at hcur
            simp only [Option.some.injEq, Obj.cells.injEq] at hcur
            rcases htt with rfl | rfl
            · exact absurd hcur.2.1 (by decide)
            · exact absurd hcur.2.1 (by decide)⟩)
        obtain ⟨lot, hot⟩ := hsjk.2.1
        dsimp only at hot
        obtain ⟨att, ctt, hst2, _⟩ := hot.shape
        have hbl7k : Below w7.heap.size w7 wk := hbl79.trans (Below.mono hblk (by omega))
        rw [Ints_length] at hst2
        repeat' (first|refine X.O ?_|refine X.A ?_|refine X.B ?_|refine X.C ?_|refine X.D ?_|refine X.E ?_|refine X.F ?_|refine X.G ?_|refine X.H ?_|refine X.I ?_|fail)
        refine WL.fld hb8k ?_
        intro q5
        rw [hst2]
        repeat' (first|refine X.O ?_|refine X.A ?_|refine X.B ?_|refine X.C ?_|refine X.D ?_|refine X.E ?_|refine X.F ?_|refine X.G ?_|refine X.H ?_|refine X.I ?_|fail)
        have tail : ∀ (nT : Nat) (w9' : World), MC 3 w9' (.int .i64 cN, vk, .int .i64 (nT : Nat)) (mapCutF (cC, cT, cN)) → Below w7.heap.size w7 w9' → ∀ (v' : Value) (w' : World), App3 w4.heap.size 73 vl v' (tl ++ [(.int .i64 cN, vk, .int .i64 (nT : Nat))]) w9' w' →
            j + 1 ≤ C.length ∧ (∃ tl', Own3 w4.heap.size 73 w' v' tl' ∧ MCs 3 w' tl' ((C.take (j + 1)).map mapCutF)) ∧ TBut 73 w6 w' ∧ Below w4.heap.size w4 w' := fun nT w9' hr hbl v' w' hap => by
          have ho := ol.below hbl (Nat.le_refl _)
          have hts9 := hap.tsame (e1 := 3) (e2 := 3) ho (by decide) (by decide)
          refine ⟨by omega, ⟨_, hap.own, ?_⟩, (htb7.trans (TBut.below hbl)).trans (TBut.app3 hap ho), (hbl7.trans (Below.mono hbl (by omega))).trans hap.bel⟩
          rw [hst]
          exact ((hMl.tsame (TSame.below (e := 3) (e2 := 3) hbl) (Or.inl rfl)).tsame hts9 (Or.inl rfl)).snoc (hr.tsame hts9 (Or.inl rfl))
        first|refine X.J (fun _ => ?_) (fun _ => ?_)|refine X.L (fun _ => ?_) (fun _ => ?_)|refine X.M (fun _ => ?_) (fun _ => ?_)|refine X.R (fun _ => ?_) (fun _ => ?_)|fail
        · rename_i hpos
          have hcT : cT ≠ [] := fun e => by subst e; simp at hpos
          have hmt : cT ∈ treesTo 6 := hgcj.2.1.resolve_left hcT
          rw [if_neg hcT] at hmp
          rw [← hst2]
          repeat' (first|refine X.O ?_|refine X.A ?_|refine X.B ?_|refine X.C ?_|refine X.D ?_|refine X.E ?_|refine X.F ?_|refine X.G ?_|refine X.H ?_|refine X.I ?_|fail)
          refine WL.step (o_loadS (by rfl) hb1k (by rfl) ?_)
          refine WL.fld hb8k ?_
          intro q6
          refine WL.call (place_any (vc := vc) hTk (hot.toIS (Nat.zero_le _)) hmt) ?_
          rintro _ wb ⟨rfl, hblb⟩
          have hzb := hblb.size
          have hbb := hbk.below hblb (by omega)
          have okb := ok.below hblb (Nat.le_refl _)
          refine WL.fldst hbb ?_
          intro q7 wc hbc hbutc
          have hzc := hbutc.size
          have okc := okb.keep fun b hb => hbutc.block b (by have := (okb.block b hb).1; omega)
          repeat' (first|refine X.O ?_|refine X.A ?_|refine X.B ?_|refine X.C ?_|refine X.D ?_|refine X.E ?_|refine X.F ?_|refine X.G ?_|refine X.H ?_|refine X.I ?_|fail)
          have hbl7c : Below w7.heap.size w7 wc := (hbl7k.trans (Below.mono hblb (by omega))).trans (hbutc.below (by omega))
          have hmc : MC 3 wc (.int .i64 cN, vk, .int .i64 ((placeT cT : Nat) : Int)) (mapCutF (cC, cT, cN)) := by rw [hmp]; exact ⟨rfl, ⟨_, okc⟩, rfl⟩
          refine WL.step (o_loadS (by rfl) hbc (by rfl) ?_)
          refine WL.app3 (tr := (.int .i64 cN, vk, .int .i64 ((placeT cT : Nat) : Int))) (fun _ => by rfl) (by rfl) (ol.below hbl7c (Nat.le_refl _)) hmc.one (by unfold maxLen; omega) (by omega) (by have := hbl7c.size; omega) ?_
          intro q8 vd wd hap _
          have htl := tail (placeT cT) wc hmc hbl7c vd wd hap
          repeat' (first|refine X.O ?_|refine X.A ?_|refine X.B ?_|refine X.C ?_|refine X.D ?_|refine X.E ?_|refine X.F ?_|refine X.G ?_|refine X.H ?_|refine X.I ?_|fail)
          exact ⟨(j + 1, vd), ⟨rfl, rfl, rfl, rfl, rfl, rfl, rfl, rfl, (by first|rfl|exact X.T (by omega)), trivial⟩, htl, by dsimp only; omega⟩
        · rename_i hpos
          have hcT : cT = [] := List.eq_nil_of_length_eq_zero (by omega)
          rw [if_pos hcT] at hmp
          have hmc : MC 3 wk (.int .i64 cN, vk, .int .i64 ((0 : Nat) : Int)) (mapCutF (cC, cT, cN)) := by rw [hmp]; exact ⟨rfl, ⟨_, ok⟩, rfl⟩
          repeat' (first|refine X.O ?_|refine X.A ?_|refine X.B ?_|refine X.C ?_|refine X.D ?_|refine X.E ?_|refine X.F ?_|refine X.G ?_|refine X.H ?_|refine X.I ?_|fail)
          refine WL.step (o_loadS (by rfl) hbk (by rfl) ?_)
          refine WL.app3 (tr := (.int .i64 cN, vk, .int .i64 ((0 : Nat) : Int))) (fun _ => by rfl) (by rfl) (ol.below hbl7k (Nat.le_refl _)) hmc.one (by unfold maxLen; omega) (by omega) (by have := hbl7k.size; omega) ?_
          intro q8 vd wd hap _
          have htl := tail 0 wk hmc hbl7k vd wd hap
          repeat' (first|refine X.O ?_|refine X.A ?_|refine X.B ?_|refine X.C ?_|refine X.D ?_|refine X.E ?_|refine X.F ?_|refine X.G ?_|refine X.H ?_|refine X.I ?_|fail)
          exact ⟨(j + 1, vd), ⟨rfl, rfl, rfl, rfl, rfl, rfl, rfl, rfl, (by first|rfl|exact X.T (by omega)), trivial⟩, htl, by dsimp only; omega⟩
    · rename_i hgej
      have hje : j = C.length := by omega
      subst hje
      rw [List.take_length, hrow] at hMl
      have hb17 := hb14.below hbl7 (by omega)
      obtain ⟨vs4, oM4, hMl4, hMr4⟩ := hM4
      have oM7 := oM4.below hbl7 (Nat.le_refl _)
      have hvl4 : vs4.length = i := by rw [hMl4, List.length_take]; omega
      obtain ⟨avl, cvl, hvle, _⟩ := ol.shape
      repeat' (first|refine X.O ?_|refine X.A ?_|refine X.B ?_|refine X.C ?_|refine X.D ?_|refine X.E ?_|refine X.F ?_|refine X.G ?_|refine X.H ?_|refine X.I ?_|fail)
      refine WL.fld hb17 ?_
      intro q9
      repeat' (first|refine X.O ?_|refine X.A ?_|refine X.B ?_|refine X.C ?_|refine X.D ?_|refine X.E ?_|refine X.F ?_|refine X.G ?_|refine X.H ?_|refine X.I ?_|fail)
      refine o_append1 (u := vl) (fun _ => by rfl) (by rfl) oM7 (by rw [hvle]; rfl) (by rw [hvl4]; unfold maxLen; omega) (by omega) (by omega) ?_
      intro q10 vn wn hownn hbln hfn hzn hnn
      have hts : TSame 73 3 w7 wn := ⟨by omega, fun b cur tt hcur htt => hfn b (Array.getElem?_eq_some_iff.1 hcur).1 fun e => by
        obtain ⟨c2, hc2⟩ := oM7.elem e
        rw [hc2] at hcur
        simp only [Option.some.injEq, Obj.cells.injEq] at hcur
        rcases htt with rfl | rfl
        · exact absurd hcur.2.1 (by decide)
        · exact absurd hcur.2.1 (by decide)⟩
      have hb1n := hb17.below hbln (by omega)
      obtain ⟨avn, cvn, hvn, _⟩ := hownn.shape
      refine WL.fldst (off := 1) hb1n ?_ (hu := by rw [hvn]; rfl)
      intro q11 wo hbo hbuto
      have hzo := hbuto.size
      have hts2 : TSame 73 3 wn wo := TSame.but hbuto hb1n (by decide) (by decide)
      repeat' (first|refine X.O ?_|refine X.A ?_|refine X.B ?_|refine X.C ?_|refine X.D ?_|refine X.E ?_|refine X.F ?_|refine X.G ?_|refine X.H ?_|refine X.I ?_|fail)
      refine ⟨i + 1, ⟨rfl, rfl, rfl, rfl, (by first|rfl|exact X.T (by omega)), trivial⟩, ⟨by omega, ⟨vn, hbo, ⟨_, _, _, hvn⟩, ⟨vs4 ++ [vl], hownn.keep fun b hb => hbuto.block b (by have := (hownn.block b hb).1; omega), ?_, fun b u rs hu hrs => ?_⟩⟩, ((hbl4.trans (Below.mono hbl7 (by omega))).trans (Below.mono hbln (by omega))).trans (hbuto.below (Nat.le_refl _))⟩, by omega⟩
      · rw [List.length_append, hvl4, List.length_take]; simp; omega
      · rw [List.take_succ_eq_append_getElem hlc, List.getElem?_append] at hrs
        rw [List.getElem?_append] at hu
        have htkl : (cutLit.take i).length = i := by rw [List.length_take]; omega
        rw [htkl] at hrs
        rw [hvl4] at hu
        split at hu
        · rename_i hlt2
          rw [if_pos hlt2] at hrs
          exact (((hMr4 b u rs hu hrs).tsame (TSame.below (Below.mono hbl7 (Nat.le_refl _)))).tsame hts).tsame hts2
        · rename_i hlt2
          rw [if_neg hlt2] at hrs
          have h0 : b - i = 0 := by
            have := (List.getElem?_eq_some_iff.1 hu).1
            simp only [List.length_singleton] at this
            omega
          rw [h0] at hu hrs
          simp at hu hrs
          subst hu hrs
          exact (MRow.tsame ⟨_, _, ol, hMl⟩ hts).tsame hts2
  · rename_i hge
    have hie : i = 37 := by omega
    subst hie
    rw [List.take_of_length_le (by omega)] at hM4
    have hb04 := hb03.below hbl4 (by omega)
    repeat' (first|refine X.O ?_|refine X.A ?_|refine X.B ?_|refine X.C ?_|refine X.D ?_|refine X.E ?_|refine X.F ?_|refine X.G ?_|refine X.H ?_|refine X.I ?_|fail)
    refine WL.step (o_loadS (by rfl) hb14 (by rfl) ?_)
    refine WL.step (o_storeS (vs := [.slice at2 37 ct, vc]) (by rfl) (by rfl) hb04 (by rfl) (by rfl) (fun x hx => by
      simp only [List.mem_cons, List.not_mem_nil, or_false] at hx
      rcases hx with rfl | rfl
      · rfl
      · rw [hvc]; rfl) ?_)
    intro w5 hb05 hbut5
    have hz5 := hbut5.size
    have hbl01 : Below w.heap.size w w4 := ((hbl1.trans (Below.mono hbl2 (by omega))).trans (Below.mono hbl3 (by omega))).trans (Below.mono hbl4 (by omega))
    repeat' (first|refine X.O ?_|refine X.A ?_|refine X.B ?_|refine X.C ?_|refine X.D ?_|refine X.E ?_|refine X.F ?_|refine X.G ?_|refine X.H ?_|refine X.I ?_|fail)
    refine ⟨_, retS rfl (by rfl) hb05 (by rfl), ⟨_, _, rfl, ?_, ?_⟩, hbl01.trans (hbut5.below (Nat.le_refl _))⟩
    · exact (hT4.same IS.stable (fun b h1 h2 => hbut5.block b (by omega)) (by omega)).wide IS.stable (Nat.zero_le _) (by omega) (Nat.le_refl _)
    · obtain ⟨vs, o4, hl4, hr4⟩ := hM4
      have hts : TSame 73 3 w4 w5 := TSame.but hbut5 hb04 (by decide) (by decide)
      have hM5 : MTab 66 73 3 w3.heap.size w5 vc cutLit := ⟨vs, o4.keep fun b hb => hbut5.block b (by have := (o4.block b hb).1; omega), hl4, fun b u rs hu hrs => (hr4 b u rs hu hrs).tsame hts⟩
      exact hM5.tb
end Go.Proofs
