/- Densities, what a tree lacks, the character and the order of a tableau: the reference's; the public functions. -/
import Derived.Test.YteifmffmadnifaaA37
import Derived.Test.YteifmffmadnifaaPlA
namespace Go.Proofs
open Go Go.Fw Go.RowKit Go.Rk
theorem l03Density_any (f : Nat) (hf : f ≤ 8) : ∀ {lo hi : Nat} {w : World} {v : Value} {t : List Int}, IS lo hi w v t → Lv t → t.length ≤ f →
    Does Try.prog 132 [v] w fun r w' => r = .int .i64 (densL f t) ∧ Below w.heap.size w w' := by
  induction f with
  | zero => intro _ _ _ _ t _ ht hn; exact absurd ht.pos (by omega)
  | succ f ih =>
  intro lo hi w v t h ht hn
  have hz := h.hi_le
  obtain ⟨a, c, hv⟩ := h.shape
  subst hv
  refine Does.enter Try.func132 Try.ntmps132 rfl (by rfl) ?_
  repeat' (first | refine WL.step (o_s (by rfl) ?_) | refine WL.step (o_len (by rfl) ?_) | refine WL.step (o_add (by rfl) (by rfl) (by unfold InI; omega) ?_) | refine WL.step (o_sub (by rfl) (by rfl) (by unfold InI; omega) ?_) | refine WL.step (OpW.pass (by rfl) ?_) | refine WL.nil ?_ | refine thenN ?_ | refine WP.region ?_ | refine WP.seq ?_ | refine WP.block ?_ | refine thenR ?_ | refine thenX ?_ | refine blkN ?_ | refine blkHit ?_ | refine blkR ?_ | refine blkMiss (by rfl) ?_ | refine WP.ret ?_ | refine WP.exit ?_ | refine WP.skip ?_ | refine WP.label ?_ | refine WP.condT (by rfl) ?_ | refine WP.condF (by rfl) ?_ | fail)
  refine WL.call (l03Parts_any h ht (by omega)) ?_
  rintro v2 w2 ⟨hS, hbl2⟩
  have hz2 := hbl2.size
  have hbr := branches_ok ht
  obtain ⟨bs, hbs⟩ : ∃ bs, branchesL t = bs := ⟨_, rfl⟩
  rw [hbs] at hS hbr
  have hR := hS.rd
  obtain ⟨ab, cb, hvb⟩ := hR.shape
  subst hvb
  have hd : densL (f + 1) t = densGo (densL f) t.length (bs.drop 0) := by rw [densL, hbs]; rfl
  repeat' (first | refine WL.step (o_s (by rfl) ?_) | refine WL.step (o_len (by rfl) ?_) | refine WL.step (o_add (by rfl) (by rfl) (by unfold InI; omega) ?_) | refine WL.step (o_sub (by rfl) (by rfl) (by unfold InI; omega) ?_) | refine WL.step (OpW.pass (by rfl) ?_) | refine WL.nil ?_ | refine thenN ?_ | refine WP.region ?_ | refine WP.seq ?_ | refine WP.block ?_ | refine thenR ?_ | refine thenX ?_ | refine blkN ?_ | refine blkHit ?_ | refine blkR ?_ | refine blkMiss (by rfl) ?_ | refine WP.ret ?_ | refine WP.exit ?_ | refine WP.skip ?_ | refine WP.label ?_ | refine WP.condT (by rfl) ?_ | refine WP.condF (by rfl) ?_ | fail)
  try (refine WL.step (o_conv (by rfl) (by unfold InI; omega) ?_))
  repeat' (first | refine WL.step (o_s (by rfl) ?_) | refine WL.step (o_len (by rfl) ?_) | refine WL.step (o_add (by rfl) (by rfl) (by unfold InI; omega) ?_) | refine WL.step (o_sub (by rfl) (by rfl) (by unfold InI; omega) ?_) | refine WL.step (OpW.pass (by rfl) ?_) | refine WL.nil ?_ | refine thenN ?_ | refine WP.region ?_ | refine WP.seq ?_ | refine WP.block ?_ | refine thenR ?_ | refine thenX ?_ | refine blkN ?_ | refine blkHit ?_ | refine blkR ?_ | refine blkMiss (by rfl) ?_ | refine WP.ret ?_ | refine WP.exit ?_ | refine WP.skip ?_ | refine WP.label ?_ | refine WP.condT (by rfl) ?_ | refine WP.condF (by rfl) ?_ | fail)
  refine WP.loop (fun (s : Nat × Int) => [(3, .int .i64 s.2), (4, .slice ab bs.length cb), (5, .int .i64 (s.1 : Nat))])
    (fun s w3 => s.1 ≤ bs.length ∧ densL (f + 1) t = densGo (densL f) s.2 (bs.drop s.1) ∧ Below w2.heap.size w2 w3)
    (fun s => bs.length - s.1) (0, (t.length : Int)) ⟨rfl, rfl, rfl, trivial⟩ ⟨by dsimp only; omega, hd, Below.refl _ _⟩ ?_
  rintro ⟨i, out⟩ w3 ⟨hi1, hd3, hbl3⟩
  dsimp only at hi1 hd3 ⊢
  have hz3 := hbl3.size
  repeat' (first | refine WL.step (o_s (by rfl) ?_) | refine WL.step (o_len (by rfl) ?_) | refine WL.step (o_add (by rfl) (by rfl) (by unfold InI; omega) ?_) | refine WL.step (o_sub (by rfl) (by rfl) (by unfold InI; omega) ?_) | refine WL.step (OpW.pass (by rfl) ?_) | refine WL.nil ?_ | refine thenN ?_ | refine WP.region ?_ | refine WP.seq ?_ | refine WP.block ?_ | refine thenR ?_ | refine thenX ?_ | refine blkN ?_ | refine blkHit ?_ | refine blkR ?_ | refine blkMiss (by rfl) ?_ | refine WP.ret ?_ | refine WP.exit ?_ | refine WP.skip ?_ | refine WP.label ?_ | refine WP.condT (by rfl) ?_ | refine WP.condF (by rfl) ?_ | fail)
  first | refine WP.condD (by rfl) (fun _ => ?_) (fun _ => ?_) | refine WP.condND (by rfl) (fun _ => ?_) (fun _ => ?_) | refine WP.condN (by rfl) (fun _ => ?_) (fun _ => ?_) | refine WP.cond (by rfl) (fun _ => ?_) (fun _ => ?_) | fail
  · rename_i hlt
    have hli : i < bs.length := by omega
    have hbi := hbr.2 _ (List.getElem_mem hli)
    rw [densGo_drop hli] at hd3
    repeat' (first | refine WL.step (o_s (by rfl) ?_) | refine WL.step (o_len (by rfl) ?_) | refine WL.step (o_add (by rfl) (by rfl) (by unfold InI; omega) ?_) | refine WL.step (o_sub (by rfl) (by rfl) (by unfold InI; omega) ?_) | refine WL.step (OpW.pass (by rfl) ?_) | refine WL.nil ?_ | refine thenN ?_ | refine WP.region ?_ | refine WP.seq ?_ | refine WP.block ?_ | refine thenR ?_ | refine thenX ?_ | refine blkN ?_ | refine blkHit ?_ | refine blkR ?_ | refine blkMiss (by rfl) ?_ | refine WP.ret ?_ | refine WP.exit ?_ | refine WP.skip ?_ | refine WP.label ?_ | refine WP.condT (by rfl) ?_ | refine WP.condF (by rfl) ?_ | fail)
    refine WL.ixload (hR.below IS.stable hbl3 (Nat.le_refl _)) (List.getElem?_eq_getElem hli) ?_
    intro p1 u hu
    repeat' (first | refine WL.step (o_s (by rfl) ?_) | refine WL.step (o_len (by rfl) ?_) | refine WL.step (o_add (by rfl) (by rfl) (by unfold InI; omega) ?_) | refine WL.step (o_sub (by rfl) (by rfl) (by unfold InI; omega) ?_) | refine WL.step (OpW.pass (by rfl) ?_) | refine WL.nil ?_ | refine thenN ?_ | refine WP.region ?_ | refine WP.seq ?_ | refine WP.block ?_ | refine thenR ?_ | refine thenX ?_ | refine blkN ?_ | refine blkHit ?_ | refine blkR ?_ | refine blkMiss (by rfl) ?_ | refine WP.ret ?_ | refine WP.exit ?_ | refine WP.skip ?_ | refine WP.label ?_ | refine WP.condT (by rfl) ?_ | refine WP.condF (by rfl) ?_ | fail)
    refine WL.call (ih (by omega) hu hbi.1 (by omega)) ?_
    rintro _ w4 ⟨rfl, hbl4⟩
    refine WL.step (o_mulW (by rfl) (by rfl) ?_)
    repeat' (first | refine WL.step (o_s (by rfl) ?_) | refine WL.step (o_len (by rfl) ?_) | refine WL.step (o_add (by rfl) (by rfl) (by unfold InI; omega) ?_) | refine WL.step (o_sub (by rfl) (by rfl) (by unfold InI; omega) ?_) | refine WL.step (OpW.pass (by rfl) ?_) | refine WL.nil ?_ | refine thenN ?_ | refine WP.region ?_ | refine WP.seq ?_ | refine WP.block ?_ | refine thenR ?_ | refine thenX ?_ | refine blkN ?_ | refine blkHit ?_ | refine blkR ?_ | refine blkMiss (by rfl) ?_ | refine WP.ret ?_ | refine WP.exit ?_ | refine WP.skip ?_ | refine WP.label ?_ | refine WP.condT (by rfl) ?_ | refine WP.condF (by rfl) ?_ | fail)
    exact ⟨(i + 1, IntKind.i64.wrap (out * densL f bs[i])), ⟨rfl, rfl, (by first | rfl | (show some (Value.int .i64 _) = some (Value.int .i64 _); refine congrArg some (congrArg (Value.int IntKind.i64) ?_); omega)), trivial⟩, ⟨by dsimp only; omega, hd3, hbl3.trans (Below.mono hbl4 hz3)⟩, by dsimp only; omega⟩
  · rename_i hge
    rw [List.drop_eq_nil_of_le (by omega), densGo] at hd3
    repeat' (first | refine WL.step (o_s (by rfl) ?_) | refine WL.step (o_len (by rfl) ?_) | refine WL.step (o_add (by rfl) (by rfl) (by unfold InI; omega) ?_) | refine WL.step (o_sub (by rfl) (by rfl) (by unfold InI; omega) ?_) | refine WL.step (OpW.pass (by rfl) ?_) | refine WL.nil ?_ | refine thenN ?_ | refine WP.region ?_ | refine WP.seq ?_ | refine WP.block ?_ | refine thenR ?_ | refine thenX ?_ | refine blkN ?_ | refine blkHit ?_ | refine blkR ?_ | refine blkMiss (by rfl) ?_ | refine WP.ret ?_ | refine WP.exit ?_ | refine WP.skip ?_ | refine WP.label ?_ | refine WP.condT (by rfl) ?_ | refine WP.condF (by rfl) ?_ | fail)
    refine ⟨_, ret1 rfl (by rfl), ?_⟩
    exact ⟨by rw [hd3], hbl2.trans (Below.mono hbl3 hbl2.size)⟩
theorem l09Residual_any {lo hi lo' hi' : Nat} {w : World} {v v' : Value} {x : TabD} {t : List Int} (h : IT lo hi w v x) (h' : IS lo' hi' w v' t) (hx : Tab x) (ht : Lv t) (hn : t.length ≤ 8) :
    Does Try.prog 75 [v, v'] w fun r w' => r = .int .i64 (lackL x t) ∧ Chg 0 0 w w' := by
  have hz := h.hi_le
  have hz' := h'.hi_le
  obtain ⟨va, vb, rfl, hA, hB⟩ := h
  have hT : IT lo hi w (.agg #[va, vb]) x := ⟨_, _, rfl, hA, hB⟩
  refine Does.enter Try.func75 Try.ntmps75 rfl (by rfl) ?_
  repeat' (first | refine WL.step (o_s (by rfl) ?_) | refine WL.step (o_len (by rfl) ?_) | refine WL.step (o_add (by rfl) (by rfl) (by unfold InI; omega) ?_) | refine WL.step (o_sub (by rfl) (by rfl) (by unfold InI; omega) ?_) | refine WL.step (OpW.pass (by rfl) ?_) | refine WL.nil ?_ | refine thenN ?_ | refine WP.region ?_ | refine WP.seq ?_ | refine WP.block ?_ | refine thenR ?_ | refine thenX ?_ | refine blkN ?_ | refine blkHit ?_ | refine blkR ?_ | refine blkMiss (by rfl) ?_ | refine WP.ret ?_ | refine WP.exit ?_ | refine WP.skip ?_ | refine WP.label ?_ | refine WP.condT (by rfl) ?_ | refine WP.condF (by rfl) ?_ | fail)
  refine WL.step (o_box (by rfl) ?_)
  intro w1 hb1 hbl1 hz1
  have hc1 := Chg.of_below hbl1
  repeat' (first | refine WL.step (o_s (by rfl) ?_) | refine WL.step (o_len (by rfl) ?_) | refine WL.step (o_add (by rfl) (by rfl) (by unfold InI; omega) ?_) | refine WL.step (o_sub (by rfl) (by rfl) (by unfold InI; omega) ?_) | refine WL.step (OpW.pass (by rfl) ?_) | refine WL.nil ?_ | refine thenN ?_ | refine WP.region ?_ | refine WP.seq ?_ | refine WP.block ?_ | refine thenR ?_ | refine thenX ?_ | refine blkN ?_ | refine blkHit ?_ | refine blkR ?_ | refine blkMiss (by rfl) ?_ | refine WP.ret ?_ | refine WP.exit ?_ | refine WP.skip ?_ | refine WP.label ?_ | refine WP.condT (by rfl) ?_ | refine WP.condF (by rfl) ?_ | fail)
  refine WL.step (o_loadS (by rfl) hb1 (by rfl) ?_)
  repeat' (first | refine WL.step (o_s (by rfl) ?_) | refine WL.step (o_len (by rfl) ?_) | refine WL.step (o_add (by rfl) (by rfl) (by unfold InI; omega) ?_) | refine WL.step (o_sub (by rfl) (by rfl) (by unfold InI; omega) ?_) | refine WL.step (OpW.pass (by rfl) ?_) | refine WL.nil ?_ | refine thenN ?_ | refine WP.region ?_ | refine WP.seq ?_ | refine WP.block ?_ | refine thenR ?_ | refine thenX ?_ | refine blkN ?_ | refine blkHit ?_ | refine blkR ?_ | refine blkMiss (by rfl) ?_ | refine WP.ret ?_ | refine WP.exit ?_ | refine WP.skip ?_ | refine WP.label ?_ | refine WP.condT (by rfl) ?_ | refine WP.condF (by rfl) ?_ | fail)
  refine WL.call (l09Weight_any (hT.below hbl1 hz) (h'.below RI.stable hbl1 hz') hx ht hn) ?_
  rintro _ w2 ⟨rfl, hc2⟩
  have hc12 := hc1.trans hc2
  repeat' (first | refine WL.step (o_s (by rfl) ?_) | refine WL.step (o_len (by rfl) ?_) | refine WL.step (o_add (by rfl) (by rfl) (by unfold InI; omega) ?_) | refine WL.step (o_sub (by rfl) (by rfl) (by unfold InI; omega) ?_) | refine WL.step (OpW.pass (by rfl) ?_) | refine WL.nil ?_ | refine thenN ?_ | refine WP.region ?_ | refine WP.seq ?_ | refine WP.block ?_ | refine thenR ?_ | refine thenX ?_ | refine blkN ?_ | refine blkHit ?_ | refine blkR ?_ | refine blkMiss (by rfl) ?_ | refine WP.ret ?_ | refine WP.exit ?_ | refine WP.skip ?_ | refine WP.label ?_ | refine WP.condT (by rfl) ?_ | refine WP.condF (by rfl) ?_ | fail)
  refine WL.call (l03Density_any 8 (Nat.le_refl _) (RI.chg h' hc12 (by omega)) ht hn) ?_
  rintro _ w3 ⟨rfl, hbl3⟩
  have hc13 := hc12.trans (Chg.of_below hbl3)
  refine WL.call (l01Frac_any 1 (densL 8 t) _) ?_
  rintro _ _ ⟨rfl, rfl⟩
  rw [nm_frac]
  have hwb : 0 ≤ weightL x t ∧ weightL x t ≤ 10006 := nm_bd _
  have hpb := powN_bd (nm (densL 8 t)) 10005
  refine WL.call (l01Sub_any (weightL x t) (powN (nm (densL 8 t)) 10005) _ (by unfold InI; omega)) ?_
  rintro _ _ ⟨rfl, rfl⟩
  repeat' (first | refine WL.step (o_s (by rfl) ?_) | refine WL.step (o_len (by rfl) ?_) | refine WL.step (o_add (by rfl) (by rfl) (by unfold InI; omega) ?_) | refine WL.step (o_sub (by rfl) (by rfl) (by unfold InI; omega) ?_) | refine WL.step (OpW.pass (by rfl) ?_) | refine WL.nil ?_ | refine thenN ?_ | refine WP.region ?_ | refine WP.seq ?_ | refine WP.block ?_ | refine thenR ?_ | refine thenX ?_ | refine blkN ?_ | refine blkHit ?_ | refine blkR ?_ | refine blkMiss (by rfl) ?_ | refine WP.ret ?_ | refine WP.exit ?_ | refine WP.skip ?_ | refine WP.label ?_ | refine WP.condT (by rfl) ?_ | refine WP.condF (by rfl) ?_ | fail)
  refine ⟨_, ret1 rfl (by rfl), ?_⟩
  exact ⟨rfl, hc13⟩
theorem l09Fault_any {lo hi : Nat} {w : World} {v : Value} {x : TabD} (n : Nat) (hn : n ≤ 6) (h : IT lo hi w v x) (hx : Tab x) :
    Does Try.prog 70 [v, .int .i64 (n : Nat)] w fun r w' => r = .int .i64 (faultL x n) ∧ Chg 0 0 w w' := by
  have hz := h.hi_le
  obtain ⟨va, vb, rfl, hA, hB⟩ := h
  have hT : IT lo hi w (.agg #[va, vb]) x := ⟨_, _, rfl, hA, hB⟩
  refine Does.enter Try.func70 Try.ntmps70 rfl (by rfl) ?_
  repeat' (first | refine WL.step (o_s (by rfl) ?_) | refine WL.step (o_len (by rfl) ?_) | refine WL.step (o_add (by rfl) (by rfl) (by unfold InI; omega) ?_) | refine WL.step (o_sub (by rfl) (by rfl) (by unfold InI; omega) ?_) | refine WL.step (OpW.pass (by rfl) ?_) | refine WL.nil ?_ | refine thenN ?_ | refine WP.region ?_ | refine WP.seq ?_ | refine WP.block ?_ | refine thenR ?_ | refine thenX ?_ | refine blkN ?_ | refine blkHit ?_ | refine blkR ?_ | refine blkMiss (by rfl) ?_ | refine WP.ret ?_ | refine WP.exit ?_ | refine WP.skip ?_ | refine WP.label ?_ | refine WP.condT (by rfl) ?_ | refine WP.condF (by rfl) ?_ | fail)
  refine WL.step (o_box (by rfl) ?_)
  intro w1 hb1 hbl1 hz1
  repeat' (first | refine WL.step (o_s (by rfl) ?_) | refine WL.step (o_len (by rfl) ?_) | refine WL.step (o_add (by rfl) (by rfl) (by unfold InI; omega) ?_) | refine WL.step (o_sub (by rfl) (by rfl) (by unfold InI; omega) ?_) | refine WL.step (OpW.pass (by rfl) ?_) | refine WL.nil ?_ | refine thenN ?_ | refine WP.region ?_ | refine WP.seq ?_ | refine WP.block ?_ | refine thenR ?_ | refine thenX ?_ | refine blkN ?_ | refine blkHit ?_ | refine blkR ?_ | refine blkMiss (by rfl) ?_ | refine WP.ret ?_ | refine WP.exit ?_ | refine WP.skip ?_ | refine WP.label ?_ | refine WP.condT (by rfl) ?_ | refine WP.condF (by rfl) ?_ | fail)
  refine WL.call (l03All_any n hn _) ?_
  rintro v3 w3 ⟨hS, hbl3⟩
  have hz3 := hbl3.size
  have hok := treesTo_ok (n := n) hn
  have hle := treesTo_le n hn
  obtain ⟨ts, hts⟩ : ∃ ts, treesTo n = ts := ⟨_, rfl⟩
  have hol : faultL x n = faultGo x ((0 : Nat) : Int) (ts.drop 0) := by unfold faultL; rw [hts]; rfl
  rw [hts] at hS hok hle
  have hR := hS.rd
  obtain ⟨ab, cb, hvb⟩ := hR.shape
  subst hvb
  have hbl13 : Below w.heap.size w w3 := hbl1.trans (Below.mono hbl3 (by omega))
  have hb3 := hb1.below hbl3 (by omega)
  have hT3 := hT.below hbl13 hz
  have hc3 := Chg.of_below hbl13
  repeat' (first | refine WL.step (o_s (by rfl) ?_) | refine WL.step (o_len (by rfl) ?_) | refine WL.step (o_add (by rfl) (by rfl) (by unfold InI; omega) ?_) | refine WL.step (o_sub (by rfl) (by rfl) (by unfold InI; omega) ?_) | refine WL.step (OpW.pass (by rfl) ?_) | refine WL.nil ?_ | refine thenN ?_ | refine WP.region ?_ | refine WP.seq ?_ | refine WP.block ?_ | refine thenR ?_ | refine thenX ?_ | refine blkN ?_ | refine blkHit ?_ | refine blkR ?_ | refine blkMiss (by rfl) ?_ | refine WP.ret ?_ | refine WP.exit ?_ | refine WP.skip ?_ | refine WP.label ?_ | refine WP.condT (by rfl) ?_ | refine WP.condF (by rfl) ?_ | fail)
  refine WP.loop (fun (i : Nat) => [(2, .pointer (some ⟨w.heap.size, 0, none⟩)), (5, .slice ab ts.length cb), (6, .int .i64 (i : Nat))])
    (fun i w4 => i ≤ ts.length ∧ faultL x n = faultGo x (i : Int) (ts.drop i) ∧ Chg 0 0 w3 w4)
    (fun i => ts.length - i) 0 ⟨rfl, rfl, rfl, trivial⟩ ⟨by omega, hol, Chg.refl _ _ _⟩ ?_
  rintro i w4 ⟨hi1, ho4, hc4⟩
  have hz4 := hc4.size
  repeat' (first | refine WL.step (o_s (by rfl) ?_) | refine WL.step (o_len (by rfl) ?_) | refine WL.step (o_add (by rfl) (by rfl) (by unfold InI; omega) ?_) | refine WL.step (o_sub (by rfl) (by rfl) (by unfold InI; omega) ?_) | refine WL.step (OpW.pass (by rfl) ?_) | refine WL.nil ?_ | refine thenN ?_ | refine WP.region ?_ | refine WP.seq ?_ | refine WP.block ?_ | refine thenR ?_ | refine thenX ?_ | refine blkN ?_ | refine blkHit ?_ | refine blkR ?_ | refine blkMiss (by rfl) ?_ | refine WP.ret ?_ | refine WP.exit ?_ | refine WP.skip ?_ | refine WP.label ?_ | refine WP.condT (by rfl) ?_ | refine WP.condF (by rfl) ?_ | fail)
  first | refine WP.condD (by rfl) (fun _ => ?_) (fun _ => ?_) | refine WP.condND (by rfl) (fun _ => ?_) (fun _ => ?_) | refine WP.condN (by rfl) (fun _ => ?_) (fun _ => ?_) | refine WP.cond (by rfl) (fun _ => ?_) (fun _ => ?_) | fail
  · rename_i hlt
    have hli : i < ts.length := by omega
    have hti := hok _ (List.getElem_mem hli)
    rw [faultGo_drop hli] at ho4
    have hb4 := hb3.chg0 hc4
    have hT4 := hT3.chg hc4 (by omega)
    have hR4 := ISS.chg hR hc4 (by omega)
    repeat' (first | refine WL.step (o_s (by rfl) ?_) | refine WL.step (o_len (by rfl) ?_) | refine WL.step (o_add (by rfl) (by rfl) (by unfold InI; omega) ?_) | refine WL.step (o_sub (by rfl) (by rfl) (by unfold InI; omega) ?_) | refine WL.step (OpW.pass (by rfl) ?_) | refine WL.nil ?_ | refine thenN ?_ | refine WP.region ?_ | refine WP.seq ?_ | refine WP.block ?_ | refine thenR ?_ | refine thenX ?_ | refine blkN ?_ | refine blkHit ?_ | refine blkR ?_ | refine blkMiss (by rfl) ?_ | refine WP.ret ?_ | refine WP.exit ?_ | refine WP.skip ?_ | refine WP.label ?_ | refine WP.condT (by rfl) ?_ | refine WP.condF (by rfl) ?_ | fail)
    refine WP.drawn (fun w' => Chg 0 0 w4 w') [(0, true), (1, true), (2, true), (3, true), (4, true), (5, false), (6, true)] (by kernel_rfl) mixed ?_
    intro w5 hs5
    have hc5 : Chg 0 0 w4 w5 := Chg.of_still hs5
    refine WS.q rfl (q_loadS (by rfl) (fun w' h => hb4.chg0 h) (by rfl)) hc5 ?_
    repeat' (first | refine WS.q rfl (q_s (by rfl)) (by first | rfl | assumption) ?_ | refine WS.q rfl (q_len (by rfl)) (by first | rfl | assumption) ?_ | refine WS.q rfl (q_add (by rfl) (by rfl) (by unfold InI; omega)) (by first | rfl | assumption) ?_ | refine WS.q rfl (q_sub (by rfl) (by rfl) (by unfold InI; omega)) (by first | rfl | assumption) ?_ | refine WS.q rfl (q_pass (by rfl)) (by first | rfl | assumption) ?_ | refine WS.nil ?_ | fail)
    refine WS.ixload rfl rfl (ISS.chg hR4 hc5 (by omega)) (List.getElem?_eq_getElem hli) (fun w' hw' k h1 h2 => (hw'.block k (by omega) (by omega)).trans (hc5.block k (by omega) (by omega)).symm) hc5 ?_
    intro p1 u hu
    refine WS.call rfl (l09Residual_any (hT4.chg hc5 (by omega)) hu hx hti.1 (by omega)) ?_
    rintro _ w6 ⟨rfl, hc6⟩
    have hc46 := hc5.trans hc6
    refine ⟨hc46, ?_⟩
    repeat' (first | refine WS.q rfl (q_s (by rfl)) (by first | rfl | assumption) ?_ | refine WS.q rfl (q_len (by rfl)) (by first | rfl | assumption) ?_ | refine WS.q rfl (q_add (by rfl) (by rfl) (by unfold InI; omega)) (by first | rfl | assumption) ?_ | refine WS.q rfl (q_sub (by rfl) (by rfl) (by unfold InI; omega)) (by first | rfl | assumption) ?_ | refine WS.q rfl (q_pass (by rfl)) (by first | rfl | assumption) ?_ | refine WS.nil ?_ | fail)
    repeat' (first | refine WL.step (o_s (by rfl) ?_) | refine WL.step (o_len (by rfl) ?_) | refine WL.step (o_add (by rfl) (by rfl) (by unfold InI; omega) ?_) | refine WL.step (o_sub (by rfl) (by rfl) (by unfold InI; omega) ?_) | refine WL.step (OpW.pass (by rfl) ?_) | refine WL.nil ?_ | refine thenN ?_ | refine WP.region ?_ | refine WP.seq ?_ | refine WP.block ?_ | refine thenR ?_ | refine thenX ?_ | refine blkN ?_ | refine blkHit ?_ | refine blkR ?_ | refine blkMiss (by rfl) ?_ | refine WP.ret ?_ | refine WP.exit ?_ | refine WP.skip ?_ | refine WP.label ?_ | refine WP.condT (by rfl) ?_ | refine WP.condF (by rfl) ?_ | fail)
    first | refine WP.condD (by rfl) (fun _ => ?_) (fun _ => ?_) | refine WP.condND (by rfl) (fun _ => ?_) (fun _ => ?_) | refine WP.condN (by rfl) (fun _ => ?_) (fun _ => ?_) | refine WP.cond (by rfl) (fun _ => ?_) (fun _ => ?_) | fail
    · rename_i hne
      rw [if_pos hne] at ho4
      repeat' (first | refine WL.step (o_s (by rfl) ?_) | refine WL.step (o_len (by rfl) ?_) | refine WL.step (o_add (by rfl) (by rfl) (by unfold InI; omega) ?_) | refine WL.step (o_sub (by rfl) (by rfl) (by unfold InI; omega) ?_) | refine WL.step (OpW.pass (by rfl) ?_) | refine WL.nil ?_ | refine thenN ?_ | refine WP.region ?_ | refine WP.seq ?_ | refine WP.block ?_ | refine thenR ?_ | refine thenX ?_ | refine blkN ?_ | refine blkHit ?_ | refine blkR ?_ | refine blkMiss (by rfl) ?_ | refine WP.ret ?_ | refine WP.exit ?_ | refine WP.skip ?_ | refine WP.label ?_ | refine WP.condT (by rfl) ?_ | refine WP.condF (by rfl) ?_ | fail)
      refine ⟨_, ret1 rfl (by rfl), ?_⟩
      exact ⟨by rw [ho4], hc3.trans (hc4.trans hc46)⟩
    · rename_i heq
      rw [if_neg heq] at ho4
      repeat' (first | refine WL.step (o_s (by rfl) ?_) | refine WL.step (o_len (by rfl) ?_) | refine WL.step (o_add (by rfl) (by rfl) (by unfold InI; omega) ?_) | refine WL.step (o_sub (by rfl) (by rfl) (by unfold InI; omega) ?_) | refine WL.step (OpW.pass (by rfl) ?_) | refine WL.nil ?_ | refine thenN ?_ | refine WP.region ?_ | refine WP.seq ?_ | refine WP.block ?_ | refine thenR ?_ | refine thenX ?_ | refine blkN ?_ | refine blkHit ?_ | refine blkR ?_ | refine blkMiss (by rfl) ?_ | refine WP.ret ?_ | refine WP.exit ?_ | refine WP.skip ?_ | refine WP.label ?_ | refine WP.condT (by rfl) ?_ | refine WP.condF (by rfl) ?_ | fail)
      exact ⟨i + 1, ⟨rfl, rfl, (by first | rfl | (show some (Value.int .i64 _) = some (Value.int .i64 _); refine congrArg some (congrArg (Value.int IntKind.i64) ?_); omega)), trivial⟩, ⟨by omega, ho4, hc4.trans hc46⟩, by omega⟩
  · rename_i hge
    rw [List.drop_eq_nil_of_le (by omega), faultGo] at ho4
    repeat' (first | refine WL.step (o_s (by rfl) ?_) | refine WL.step (o_len (by rfl) ?_) | refine WL.step (o_add (by rfl) (by rfl) (by unfold InI; omega) ?_) | refine WL.step (o_sub (by rfl) (by rfl) (by unfold InI; omega) ?_) | refine WL.step (OpW.pass (by rfl) ?_) | refine WL.nil ?_ | refine thenN ?_ | refine WP.region ?_ | refine WP.seq ?_ | refine WP.block ?_ | refine thenR ?_ | refine thenX ?_ | refine blkN ?_ | refine blkHit ?_ | refine blkR ?_ | refine blkMiss (by rfl) ?_ | refine WP.ret ?_ | refine WP.exit ?_ | refine WP.skip ?_ | refine WP.label ?_ | refine WP.condT (by rfl) ?_ | refine WP.condF (by rfl) ?_ | fail)
    refine ⟨_, ret1 rfl (by rfl), ?_⟩
    exact ⟨by rw [ho4], hc3.trans hc4⟩
theorem OrderOf_any {lo hi : Nat} {w : World} {v : Value} {x : TabD} (h : IT lo hi w v x) :
    Does Try.prog 31 [v] w fun r w' => r = .tuple #[.int .i64 (orderOf x).1, .int .i64 (orderOf x).2] ∧ Chg 0 0 w w' := by
  have hz := h.hi_le
  obtain ⟨va, vb, rfl, hA, hB⟩ := h
  have hT : IT lo hi w (.agg #[va, vb]) x := ⟨_, _, rfl, hA, hB⟩
  refine Does.enter Try.func31 Try.ntmps31 rfl (by rfl) ?_
  repeat' (first | refine WL.step (o_s (by rfl) ?_) | refine WL.step (o_len (by rfl) ?_) | refine WL.step (o_add (by rfl) (by rfl) (by unfold InI; omega) ?_) | refine WL.step (o_sub (by rfl) (by rfl) (by unfold InI; omega) ?_) | refine WL.step (OpW.pass (by rfl) ?_) | refine WL.nil ?_ | refine thenN ?_ | refine WP.region ?_ | refine WP.seq ?_ | refine WP.block ?_ | refine thenR ?_ | refine thenX ?_ | refine blkN ?_ | refine blkHit ?_ | refine blkR ?_ | refine blkMiss (by rfl) ?_ | refine WP.ret ?_ | refine WP.exit ?_ | refine WP.skip ?_ | refine WP.label ?_ | refine WP.condT (by rfl) ?_ | refine WP.condF (by rfl) ?_ | fail)
  refine WL.step (o_box (by rfl) ?_)
  intro w1 hb1 hbl1 hz1
  have hc1 := Chg.of_below hbl1
  replace hT := hT.below hbl1 hz
  repeat' (first | refine WL.step (o_s (by rfl) ?_) | refine WL.step (o_len (by rfl) ?_) | refine WL.step (o_add (by rfl) (by rfl) (by unfold InI; omega) ?_) | refine WL.step (o_sub (by rfl) (by rfl) (by unfold InI; omega) ?_) | refine WL.step (OpW.pass (by rfl) ?_) | refine WL.nil ?_ | refine thenN ?_ | refine WP.region ?_ | refine WP.seq ?_ | refine WP.block ?_ | refine thenR ?_ | refine thenX ?_ | refine blkN ?_ | refine blkHit ?_ | refine blkR ?_ | refine blkMiss (by rfl) ?_ | refine WP.ret ?_ | refine WP.exit ?_ | refine WP.skip ?_ | refine WP.label ?_ | refine WP.condT (by rfl) ?_ | refine WP.condF (by rfl) ?_ | fail)
  refine WL.step (o_loadS (by rfl) hb1 (by rfl) ?_)
  refine WL.call (IsTableau_any hT) ?_
  rintro _ w2 ⟨rfl, hc2⟩
  replace hT := hT.chg hc2 (by omega)
  replace hb1 := hb1.chg0 hc2
  unfold orderOf
  repeat' (first | refine WL.step (o_s (by rfl) ?_) | refine WL.step (o_len (by rfl) ?_) | refine WL.step (o_add (by rfl) (by rfl) (by unfold InI; omega) ?_) | refine WL.step (o_sub (by rfl) (by rfl) (by unfold InI; omega) ?_) | refine WL.step (OpW.pass (by rfl) ?_) | refine WL.nil ?_ | refine thenN ?_ | refine WP.region ?_ | refine WP.seq ?_ | refine WP.block ?_ | refine thenR ?_ | refine thenX ?_ | refine blkN ?_ | refine blkHit ?_ | refine blkR ?_ | refine blkMiss (by rfl) ?_ | refine WP.ret ?_ | refine WP.exit ?_ | refine WP.skip ?_ | refine WP.label ?_ | refine WP.condT (by rfl) ?_ | refine WP.condF (by rfl) ?_ | fail)
  first | refine WP.condD (by rfl) (fun _ => ?_) (fun _ => ?_) | refine WP.condND (by rfl) (fun _ => ?_) (fun _ => ?_) | refine WP.condN (by rfl) (fun _ => ?_) (fun _ => ?_) | refine WP.cond (by rfl) (fun _ => ?_) (fun _ => ?_) | fail
  · rename_i hbad
    repeat' (first | refine WL.step (o_s (by rfl) ?_) | refine WL.step (o_len (by rfl) ?_) | refine WL.step (o_add (by rfl) (by rfl) (by unfold InI; omega) ?_) | refine WL.step (o_sub (by rfl) (by rfl) (by unfold InI; omega) ?_) | refine WL.step (OpW.pass (by rfl) ?_) | refine WL.nil ?_ | refine thenN ?_ | refine WP.region ?_ | refine WP.seq ?_ | refine WP.block ?_ | refine thenR ?_ | refine thenX ?_ | refine blkN ?_ | refine blkHit ?_ | refine blkR ?_ | refine blkMiss (by rfl) ?_ | refine WP.ret ?_ | refine WP.exit ?_ | refine WP.skip ?_ | refine WP.label ?_ | refine WP.condT (by rfl) ?_ | refine WP.condF (by rfl) ?_ | fail)
    refine ⟨_, ret2 rfl (by rfl) (by rfl), ?_⟩
    rw [hbad]
    exact ⟨rfl, hc1.trans hc2⟩
  · rename_i hok
    rw [if_pos hok]
    repeat' (first | refine WL.step (o_s (by rfl) ?_) | refine WL.step (o_len (by rfl) ?_) | refine WL.step (o_add (by rfl) (by rfl) (by unfold InI; omega) ?_) | refine WL.step (o_sub (by rfl) (by rfl) (by unfold InI; omega) ?_) | refine WL.step (OpW.pass (by rfl) ?_) | refine WL.nil ?_ | refine thenN ?_ | refine WP.region ?_ | refine WP.seq ?_ | refine WP.block ?_ | refine thenR ?_ | refine thenX ?_ | refine blkN ?_ | refine blkHit ?_ | refine blkR ?_ | refine blkMiss (by rfl) ?_ | refine WP.ret ?_ | refine WP.exit ?_ | refine WP.skip ?_ | refine WP.label ?_ | refine WP.condT (by rfl) ?_ | refine WP.condF (by rfl) ?_ | fail)
    refine WL.step (o_loadS (by rfl) hb1 (by rfl) ?_)
    repeat' (first | refine WL.step (o_s (by rfl) ?_) | refine WL.step (o_len (by rfl) ?_) | refine WL.step (o_add (by rfl) (by rfl) (by unfold InI; omega) ?_) | refine WL.step (o_sub (by rfl) (by rfl) (by unfold InI; omega) ?_) | refine WL.step (OpW.pass (by rfl) ?_) | refine WL.nil ?_ | refine thenN ?_ | refine WP.region ?_ | refine WP.seq ?_ | refine WP.block ?_ | refine thenR ?_ | refine thenX ?_ | refine blkN ?_ | refine blkHit ?_ | refine blkR ?_ | refine blkMiss (by rfl) ?_ | refine WP.ret ?_ | refine WP.exit ?_ | refine WP.skip ?_ | refine WP.label ?_ | refine WP.condT (by rfl) ?_ | refine WP.condF (by rfl) ?_ | fail)
    refine WL.call (order_any hT (isTab_iff hok)) ?_
    rintro _ w3 ⟨rfl, hc3⟩
    repeat' (first | refine WL.step (o_s (by rfl) ?_) | refine WL.step (o_len (by rfl) ?_) | refine WL.step (o_add (by rfl) (by rfl) (by unfold InI; omega) ?_) | refine WL.step (o_sub (by rfl) (by rfl) (by unfold InI; omega) ?_) | refine WL.step (OpW.pass (by rfl) ?_) | refine WL.nil ?_ | refine thenN ?_ | refine WP.region ?_ | refine WP.seq ?_ | refine WP.block ?_ | refine thenR ?_ | refine thenX ?_ | refine blkN ?_ | refine blkHit ?_ | refine blkR ?_ | refine blkMiss (by rfl) ?_ | refine WP.ret ?_ | refine WP.exit ?_ | refine WP.skip ?_ | refine WP.label ?_ | refine WP.condT (by rfl) ?_ | refine WP.condF (by rfl) ?_ | fail)
    refine ⟨_, ret2 rfl (by rfl) (by rfl), ?_⟩
    exact ⟨rfl, (hc1.trans hc2).trans hc3⟩
theorem sOrderOf_any {lo hi : Nat} {w : World} {v : Value} {x : TabD} (h : IT lo hi w v x) : Does Try.prog 32 [v] w fun r w' => r = .tuple #[.int .i64 (orderOf x).1, .int .i64 (orderOf x).2] ∧ Chg 0 0 w w' := by
  have hz := h.hi_le
  obtain ⟨va, vb, rfl, hA, hB⟩ := h
  have hT : IT lo hi w (.agg #[va, vb]) x := ⟨_, _, rfl, hA, hB⟩
  refine Does.enter Try.func32 Try.ntmps32 rfl (by rfl) ?_
  repeat' (first | refine WL.step (o_s (by rfl) ?_) | refine WL.step (o_len (by rfl) ?_) | refine WL.step (o_add (by rfl) (by rfl) (by unfold InI; omega) ?_) | refine WL.step (o_sub (by rfl) (by rfl) (by unfold InI; omega) ?_) | refine WL.step (OpW.pass (by rfl) ?_) | refine WL.nil ?_ | refine thenN ?_ | refine WP.region ?_ | refine WP.seq ?_ | refine WP.block ?_ | refine thenR ?_ | refine thenX ?_ | refine blkN ?_ | refine blkHit ?_ | refine blkR ?_ | refine blkMiss (by rfl) ?_ | refine WP.ret ?_ | refine WP.exit ?_ | refine WP.skip ?_ | refine WP.label ?_ | refine WP.condT (by rfl) ?_ | refine WP.condF (by rfl) ?_ | fail)
  refine WL.step (o_box (by rfl) ?_)
  intro w1 hb1 hbl1 hz1
  have hc1 := Chg.of_below hbl1
  replace hT := hT.below hbl1 hz
  repeat' (first | refine WL.step (o_s (by rfl) ?_) | refine WL.step (o_len (by rfl) ?_) | refine WL.step (o_add (by rfl) (by rfl) (by unfold InI; omega) ?_) | refine WL.step (o_sub (by rfl) (by rfl) (by unfold InI; omega) ?_) | refine WL.step (OpW.pass (by rfl) ?_) | refine WL.nil ?_ | refine thenN ?_ | refine WP.region ?_ | refine WP.seq ?_ | refine WP.block ?_ | refine thenR ?_ | refine thenX ?_ | refine blkN ?_ | refine blkHit ?_ | refine blkR ?_ | refine blkMiss (by rfl) ?_ | refine WP.ret ?_ | refine WP.exit ?_ | refine WP.skip ?_ | refine WP.label ?_ | refine WP.condT (by rfl) ?_ | refine WP.condF (by rfl) ?_ | fail)
  refine WL.step (o_loadS (by rfl) hb1 (by rfl) ?_)
  refine WL.call (l09Is_any hT) ?_
  rintro _ w2 ⟨rfl, hc2⟩
  replace hT := hT.chg hc2 (by omega)
  replace hb1 := hb1.chg0 hc2
  have hz2 := hc2.size
  unfold orderOf
  repeat' (first | refine WL.step (o_s (by rfl) ?_) | refine WL.step (o_len (by rfl) ?_) | refine WL.step (o_add (by rfl) (by rfl) (by unfold InI; omega) ?_) | refine WL.step (o_sub (by rfl) (by rfl) (by unfold InI; omega) ?_) | refine WL.step (OpW.pass (by rfl) ?_) | refine WL.nil ?_ | refine thenN ?_ | refine WP.region ?_ | refine WP.seq ?_ | refine WP.block ?_ | refine thenR ?_ | refine thenX ?_ | refine blkN ?_ | refine blkHit ?_ | refine blkR ?_ | refine blkMiss (by rfl) ?_ | refine WP.ret ?_ | refine WP.exit ?_ | refine WP.skip ?_ | refine WP.label ?_ | refine WP.condT (by rfl) ?_ | refine WP.condF (by rfl) ?_ | fail)
  first | refine WP.condD (by rfl) (fun _ => ?_) (fun _ => ?_) | refine WP.condND (by rfl) (fun _ => ?_) (fun _ => ?_) | refine WP.condN (by rfl) (fun _ => ?_) (fun _ => ?_) | refine WP.cond (by rfl) (fun _ => ?_) (fun _ => ?_) | fail
  · rename_i hbad
    repeat' (first | refine WL.step (o_s (by rfl) ?_) | refine WL.step (o_len (by rfl) ?_) | refine WL.step (o_add (by rfl) (by rfl) (by unfold InI; omega) ?_) | refine WL.step (o_sub (by rfl) (by rfl) (by unfold InI; omega) ?_) | refine WL.step (OpW.pass (by rfl) ?_) | refine WL.nil ?_ | refine thenN ?_ | refine WP.region ?_ | refine WP.seq ?_ | refine WP.block ?_ | refine thenR ?_ | refine thenX ?_ | refine blkN ?_ | refine blkHit ?_ | refine blkR ?_ | refine blkMiss (by rfl) ?_ | refine WP.ret ?_ | refine WP.exit ?_ | refine WP.skip ?_ | refine WP.label ?_ | refine WP.condT (by rfl) ?_ | refine WP.condF (by rfl) ?_ | fail)
    refine ⟨_, ret2 rfl (by rfl) (by rfl), ?_⟩
    rw [hbad]
    exact ⟨rfl, hc1.trans hc2⟩
  · rename_i hok
    rw [if_pos hok, orderL_eq]
    have hx := isTab_iff hok
    repeat' (first | refine WL.step (o_s (by rfl) ?_) | refine WL.step (o_len (by rfl) ?_) | refine WL.step (o_add (by rfl) (by rfl) (by unfold InI; omega) ?_) | refine WL.step (o_sub (by rfl) (by rfl) (by unfold InI; omega) ?_) | refine WL.step (OpW.pass (by rfl) ?_) | refine WL.nil ?_ | refine thenN ?_ | refine WP.region ?_ | refine WP.seq ?_ | refine WP.block ?_ | refine thenR ?_ | refine thenX ?_ | refine blkN ?_ | refine blkHit ?_ | refine blkR ?_ | refine blkMiss (by rfl) ?_ | refine WP.ret ?_ | refine WP.exit ?_ | refine WP.skip ?_ | refine WP.label ?_ | refine WP.condT (by rfl) ?_ | refine WP.condF (by rfl) ?_ | fail)
    refine WP.loop (fun (p : Nat) => [(1, .pointer (some ⟨w.heap.size, 0, none⟩)), (4, .int .i64 (p : Nat))])
      (fun p w3 => p ≤ 6 ∧ ordS x 0 6 = ordS x p (6 - p) ∧ Chg 0 0 w2 w3) (fun p => 6 - p) 0 ⟨rfl, rfl, trivial⟩ ⟨by omega, rfl, Chg.refl _ _ _⟩ ?_
    rintro p w3 ⟨hp, ho, hc3⟩
    repeat' (first | refine WL.step (o_s (by rfl) ?_) | refine WL.step (o_len (by rfl) ?_) | refine WL.step (o_add (by rfl) (by rfl) (by unfold InI; omega) ?_) | refine WL.step (o_sub (by rfl) (by rfl) (by unfold InI; omega) ?_) | refine WL.step (OpW.pass (by rfl) ?_) | refine WL.nil ?_ | refine thenN ?_ | refine WP.region ?_ | refine WP.seq ?_ | refine WP.block ?_ | refine thenR ?_ | refine thenX ?_ | refine blkN ?_ | refine blkHit ?_ | refine blkR ?_ | refine blkMiss (by rfl) ?_ | refine WP.ret ?_ | refine WP.exit ?_ | refine WP.skip ?_ | refine WP.label ?_ | refine WP.condT (by rfl) ?_ | refine WP.condF (by rfl) ?_ | fail)
    by_cases hp6 : p < 6
    · refine WL.gsplitD (by rfl) (by rfl) (by rfl) (fun _ => ?_) (fun hb => absurd hb (by omega))
      rw [ordS_step x hp6] at ho
      repeat' (first | refine WL.step (o_s (by rfl) ?_) | refine WL.step (o_len (by rfl) ?_) | refine WL.step (o_add (by rfl) (by rfl) (by unfold InI; omega) ?_) | refine WL.step (o_sub (by rfl) (by rfl) (by unfold InI; omega) ?_) | refine WL.step (OpW.pass (by rfl) ?_) | refine WL.nil ?_ | refine thenN ?_ | refine WP.region ?_ | refine WP.seq ?_ | refine WP.block ?_ | refine thenR ?_ | refine thenX ?_ | refine blkN ?_ | refine blkHit ?_ | refine blkR ?_ | refine blkMiss (by rfl) ?_ | refine WP.ret ?_ | refine WP.exit ?_ | refine WP.skip ?_ | refine WP.label ?_ | refine WP.condT (by rfl) ?_ | refine WP.condF (by rfl) ?_ | fail)
      refine WL.step (o_loadS (by rfl) (hb1.chg0 hc3) (by rfl) ?_)
      repeat' (first | refine WL.step (o_s (by rfl) ?_) | refine WL.step (o_len (by rfl) ?_) | refine WL.step (o_add (by rfl) (by rfl) (by unfold InI; omega) ?_) | refine WL.step (o_sub (by rfl) (by rfl) (by unfold InI; omega) ?_) | refine WL.step (OpW.pass (by rfl) ?_) | refine WL.nil ?_ | refine thenN ?_ | refine WP.region ?_ | refine WP.seq ?_ | refine WP.block ?_ | refine thenR ?_ | refine thenX ?_ | refine blkN ?_ | refine blkHit ?_ | refine blkR ?_ | refine blkMiss (by rfl) ?_ | refine WP.ret ?_ | refine WP.exit ?_ | refine WP.skip ?_ | refine WP.label ?_ | refine WP.condT (by rfl) ?_ | refine WP.condF (by rfl) ?_ | fail)
      refine WL.call (l09Fault_any (p + 1) (by omega) (hT.chg hc3 (by omega)) hx) ?_ (hx := by rfl)
      rintro _ w4 ⟨rfl, hc4⟩
      repeat' (first | refine WL.step (o_s (by rfl) ?_) | refine WL.step (o_len (by rfl) ?_) | refine WL.step (o_add (by rfl) (by rfl) (by unfold InI; omega) ?_) | refine WL.step (o_sub (by rfl) (by rfl) (by unfold InI; omega) ?_) | refine WL.step (OpW.pass (by rfl) ?_) | refine WL.nil ?_ | refine thenN ?_ | refine WP.region ?_ | refine WP.seq ?_ | refine WP.block ?_ | refine thenR ?_ | refine thenX ?_ | refine blkN ?_ | refine blkHit ?_ | refine blkR ?_ | refine blkMiss (by rfl) ?_ | refine WP.ret ?_ | refine WP.exit ?_ | refine WP.skip ?_ | refine WP.label ?_ | refine WP.condT (by rfl) ?_ | refine WP.condF (by rfl) ?_ | fail)
      first | refine WP.condD (by rfl) (fun _ => ?_) (fun _ => ?_) | refine WP.condND (by rfl) (fun _ => ?_) (fun _ => ?_) | refine WP.condN (by rfl) (fun _ => ?_) (fun _ => ?_) | refine WP.cond (by rfl) (fun _ => ?_) (fun _ => ?_) | fail
      · rename_i hneg
        rw [if_pos ((faultL_neg x (p + 1)).1 hneg)] at ho
        repeat' (first | refine WL.step (o_s (by rfl) ?_) | refine WL.step (o_len (by rfl) ?_) | refine WL.step (o_add (by rfl) (by rfl) (by unfold InI; omega) ?_) | refine WL.step (o_sub (by rfl) (by rfl) (by unfold InI; omega) ?_) | refine WL.step (OpW.pass (by rfl) ?_) | refine WL.nil ?_ | refine thenN ?_ | refine WP.region ?_ | refine WP.seq ?_ | refine WP.block ?_ | refine thenR ?_ | refine thenX ?_ | refine blkN ?_ | refine blkHit ?_ | refine blkR ?_ | refine blkMiss (by rfl) ?_ | refine WP.ret ?_ | refine WP.exit ?_ | refine WP.skip ?_ | refine WP.label ?_ | refine WP.condT (by rfl) ?_ | refine WP.condF (by rfl) ?_ | fail)
        exact ⟨p + 1, ⟨rfl, (by first | rfl | (show some (Value.int .i64 _) = some (Value.int .i64 _); refine congrArg some (congrArg (Value.int IntKind.i64) ?_); omega)), trivial⟩, ⟨by omega, ho, hc3.trans hc4⟩, by omega⟩
      · rename_i hpos
        rw [if_neg (fun h => hpos ((faultL_neg x (p + 1)).2 h))] at ho
        repeat' (first | refine WL.step (o_s (by rfl) ?_) | refine WL.step (o_len (by rfl) ?_) | refine WL.step (o_add (by rfl) (by rfl) (by unfold InI; omega) ?_) | refine WL.step (o_sub (by rfl) (by rfl) (by unfold InI; omega) ?_) | refine WL.step (OpW.pass (by rfl) ?_) | refine WL.nil ?_ | refine thenN ?_ | refine WP.region ?_ | refine WP.seq ?_ | refine WP.block ?_ | refine thenR ?_ | refine thenX ?_ | refine blkN ?_ | refine blkHit ?_ | refine blkR ?_ | refine blkMiss (by rfl) ?_ | refine WP.ret ?_ | refine WP.exit ?_ | refine WP.skip ?_ | refine WP.label ?_ | refine WP.condT (by rfl) ?_ | refine WP.condF (by rfl) ?_ | fail)
        refine ⟨_, ret2 rfl (by rfl) (by rfl), ?_⟩
        rw [ho]
        exact ⟨rfl, (hc1.trans hc2).trans (hc3.trans hc4)⟩
    · refine WL.gsplitD (by rfl) (by rfl) (by rfl) (fun hb => absurd hb (by omega)) (fun _ => ?_)
      obtain rfl : p = 6 := by omega
      repeat' (first | refine WL.step (o_s (by rfl) ?_) | refine WL.step (o_len (by rfl) ?_) | refine WL.step (o_add (by rfl) (by rfl) (by unfold InI; omega) ?_) | refine WL.step (o_sub (by rfl) (by rfl) (by unfold InI; omega) ?_) | refine WL.step (OpW.pass (by rfl) ?_) | refine WL.nil ?_ | refine thenN ?_ | refine WP.region ?_ | refine WP.seq ?_ | refine WP.block ?_ | refine thenR ?_ | refine thenX ?_ | refine blkN ?_ | refine blkHit ?_ | refine blkR ?_ | refine blkMiss (by rfl) ?_ | refine WP.ret ?_ | refine WP.exit ?_ | refine WP.skip ?_ | refine WP.label ?_ | refine WP.condT (by rfl) ?_ | refine WP.condF (by rfl) ?_ | fail)
      refine ⟨_, ret2 rfl (by rfl) (by rfl), ?_⟩
      rw [ho]
      exact ⟨rfl, (hc1.trans hc2).trans hc3⟩
end Go.Proofs
