/- append(s, make([]T, n)...); cap; a slice's first none; Grow and Concat. -/
import Derived.Test.YthepgmajeljdhaaGreatHB
import Derived.Test.YthepgmajeljdhaaGreatA5
import Derived.Lib.AppendZerosOnto
import Derived.Test.YthepgmajeljdhaaGreatK3
namespace Go.Fw
open Go Go.RowKit

theorem toList_zeroCells_one (z : Value) (n : Nat) : (Builtin.zeroCells #[z] n).toList = List.replicate n z := by
  apply List.ext_getElem
  · simp [Builtin.zeroCells]
  · intro i h1 h2
    simp [Builtin.zeroCells, Nat.mod_one]

theorem zeroCells_one (z : Value) (n : Nat) : Builtin.zeroCells #[z] n = (List.replicate n z).toArray := by
  rw [← toList_zeroCells_one z n]

section
variable {P : Program} {N : Nat} {Q : Exit → Fr → World → Prop} {S : World → Prop} {l : Fr} {w : World} {ops : Array Oper} {K : Fr → World → Prop}
variable {d : Nat} {ty : TypeId} {pos : String} {af : Array Edge} {g : Option (Nat × Bool)}

theorem run_appendN {t tn e : TypeId} {z : Value} {bytes : Nat} (h : SliceTy P t e z bytes) (hn1 : IntTy P tn .i64) (hz : z.oneCell' = true) {lo n : Nat} {kq : IntKind} {v : Value} {us : List Value} (hown : Own lo e w v us)
    (hm : us.length + n ≤ maxLen) (hb : (us.length + n) * bytes ≤ 140737488355328) (hlo : lo ≤ w.heap.size) :
    ∃ v' w', (Builtin.append_ #[t, tn] ty #[v, .int kq (n : Nat)]).run P w = .ok v' w' ∧ Own lo e w' v' (us ++ List.replicate n z) ∧ w.grownBy w' v.ownBlock := by
  obtain ⟨i0, hi, hz0, hz1, hz2⟩ := info_parts h.info
  have hmi : ((us.length + n : Nat) : Int) ≤ 9223372036854775807 := by unfold maxLen at hm; omega
  have hnb : n * bytes ≤ 140737488355328 := Nat.le_trans (Nat.mul_le_mul_right _ (by omega)) hb
  have hw : IntKind.i64.wrap (n : Int) = n := by rw [IntKind.wrap_i64]; omega
  have hneg : ¬ ((n : Int) < 0) := by omega
  have h48i : ¬ (281474976710656 < (n : Int) * (i0.bytes : Int)) := by
    rw [← Int.natCast_mul, hz2]
    omega
  have grown : ∀ (old : Nat) (row : Option Nat),
      Own lo e (w.drew.alloc (.cells (us.toArray ++ Builtin.zeroCells z.cells n ++ Builtin.zeroCells z.cells (grownCap w (us.length + n) old e - (us.length + n))) e)) (.slice (some ⟨w.heap.size, 0, none⟩) (us.length + n) (grownCap w (us.length + n) old e)) (us ++ List.replicate n z) ∧
      w.grownBy (w.drew.alloc (.cells (us.toArray ++ Builtin.zeroCells z.cells n ++ Builtin.zeroCells z.cells (grownCap w (us.length + n) old e - (us.length + n))) e)) row := by
    intro old row
    have hge := grownCap_ge w (us.length + n) old e
    have hcm : grownCap w (us.length + n) old e ≤ maxLen := grownCap_le_maxLen w (us.length + n) old e hm
    refine ⟨?_, ⟨rfl, rfl, rfl, by simp, fun k hk _ => heap_alloc_old w.drew _ hk⟩⟩
    unfold Own
    rw [List.length_append, List.length_replicate]
    refine ⟨by simp, .inr ⟨w.heap.size, _, _, rfl, hlo, heap_alloc_new w.drew _, hge, hcm, ?_, ?_⟩⟩
    · rw [h.one]
      simp only [Array.size_append, List.size_toArray, size_zeroCells]
      simp
      omega
    · rw [h.one]
      simp only [Array.toList_append, toList_zeroCells_one, Nat.mul_one]
      rw [List.take_append_of_le_length (by simp), List.take_of_length_le (by simp)]
  by_cases h0 : n = 0
  · subst h0
    obtain ⟨a, c, hv, hc, _⟩ := hown.shape
    refine ⟨v, w, ?_, by simpa using hown, ⟨rfl, rfl, rfl, Nat.le_refl _, fun _ _ _ => rfl⟩⟩
    rw [hv]
    cases a <;> simp [Builtin.append_, run_underlying h.und, run_underlying hn1.und, sizeOf, typeInfo, hi, asInt, asIntOf, hc, storeCells, show IntKind.i64.wrap 0 = 0 from by decide]
  obtain ⟨_, ⟨rfl, hl0⟩ | ⟨g', cap, cur, rfl, hbg, hg, hnc, hcm, hcs, htake⟩⟩ := id hown
  · have hx : us = [] := List.eq_nil_of_length_eq_zero hl0
    subst hx
    have hr := Go.Lib.run_append_nil_zeros (P := P) w t tn ty e i0 z kq .i64 h.und hn1.und hi hz0 n (by omega) (by omega) (by simpa using hmi) (by rw [hz2]; omega)
    have hgr := grown 0 (Value.ownBlock (.slice none 0 0))
    simp only [List.length_nil, Nat.zero_add, List.nil_append, Array.empty_append] at hgr ⊢
    exact ⟨_, _, hr, hgr.1, hgr.2⟩
  · by_cases hroom : us.length + n ≤ cap
    · have hst := run_storeCells_at P g' us.length e (List.replicate n z) 0 cur w hg (by simp [hcs]; omega) (fun u hu => by rw [List.eq_of_mem_replicate hu]; exact hz)
      simp only [Nat.add_zero, List.length_replicate] at hst
      refine ⟨.slice (some ⟨g', 0, none⟩) (us.length + n) cap, w.setRow g' (cur.toList.take us.length ++ List.replicate n z ++ cur.toList.drop (us.length + n)).toArray, ?_, ?_, ⟨rfl, rfl, rfl, by simp, fun k _ hk => setRow_other w g' k (cur.toList.take us.length ++ List.replicate n z ++ cur.toList.drop (us.length + n)).toArray (fun e => hk (by simp [Value.ownBlock, e]))⟩⟩
      · simp [Builtin.append_, run_underlying h.und, run_underlying hn1.und, sizeOf, typeInfo, zeroValue, hi, hz0, hz1, asInt, asIntOf, hw, hneg, h48i, hroom, h0, h.one, zeroCells_one, Addr.add_lit, hst, List.append_assoc]
      · unfold Own
        rw [List.length_append, List.length_replicate]
        refine ⟨by simp, .inr ⟨g', cap, _, rfl, hbg, setRow_heap w g' cur _ e _ hg, hroom, hcm, ?_, ?_⟩⟩
        · simp only [List.size_toArray, List.length_append, List.length_take, List.length_drop, Array.length_toList, List.length_replicate]
          omega
        · rw [Nat.mul_one] at htake ⊢
          rw [htake]
          exact List.take_left' (by simp)
    · have holds : (Builtin.firstCells i0.size us.length (.slice (some ⟨g', 0, none⟩) us.length cap)).run P w.drew = .ok us.toArray w.drew := by
        rw [hz1]
        refine run_firstCells_some (P := P) w.drew 1 us.length ⟨g', 0, none⟩ us.length cap us (by simp) (fun j u hu => ?_)
        obtain ⟨g2, c2, he, _, _, hcell, _⟩ := hown.cell hu
        injection he with h1 _ _
        injection h1 with h1
        injection h1 with h1 _ _
        subst h1
        rw [Addr.add_lit, Nat.zero_add]
        exact hcell
      have hr := Go.Lib.run_append_grow_zeros (P := P) w t tn ty e i0 z kq .i64 h.und hn1.und hi hz0 (some ⟨g', 0, none⟩) us.length cap us holds n (by omega) (by omega) (by omega) hmi (by rw [hz2]; omega) (by rw [hz2]; exact growslice_fits (by omega) hb)
      have hgr := grown cap (Value.ownBlock (.slice (some ⟨g', 0, none⟩) us.length cap))
      exact ⟨_, _, hr, hgr.1, hgr.2⟩

/-- append(s, make([]T, n)...). -/
theorem o_appendN {t tn e : TypeId} {z : Value} {bytes : Nat} [h : SliceTy P t e z bytes] [hn1 : IntTy P tn .i64] {lo n : Nat} {kq : IntKind} {s x : Operand} {v : Value} {us : List Value} (hs : ev l s = some v) (hx : ev l x = some (.int kq (n : Nat))) (hown : Own lo e w v us) (hz : z.oneCell' = true)
    (hm : us.length + n ≤ maxLen) (hb : (us.length + n) * bytes ≤ 140737488355328) (hlo : lo ≤ w.heap.size)
    (k : ∀ v' w', Own lo e w' v' (us ++ List.replicate n z) → w.grownBy w' v.ownBlock → Below lo w w' → K ((d, v') :: l) w')
    (hg : wantedL ops l g = some true := by rfl) (hd : Nat.blt d N = true := by rfl) : OpW P N ops Q ⟨some d, .call { callee := .builtin .append, args := #[s, x], argTypes := #[t, tn] }, ty, pos, af, g⟩ l w K := by
  obtain ⟨v', w', hr, h2, h3⟩ := run_appendN (ty := ty) (kq := kq) h hn1 hz hown hm hb hlo
  refine OpW.val (w' := w') (v := v') (fun fr ha => ?_) (k v' w' h2 h3 (grown_below h3 hlo fun k hk => (hown.block k hk).1)) hg hd
  simp [execOp, resolve, invoke, builtin, ha.ev hs, ha.ev hx, hr]
end
end Go.Fw
/- slices.Grow of nil, slices.Concat. -/
namespace Go.Fw
open Go Go.RowKit
theorem Own.take0 {lo : Nat} {e : TypeId} {w : World} {a : Option Addr} {n c : Nat} {us : List Value} (h : Own lo e w (.slice a n c) us) : Own lo e w (.slice a 0 c) [] := by
  obtain ⟨_, ⟨hv, h0⟩ | ⟨g, cap, cur, hv, hb, hg, hn, hm, hcs, ht⟩⟩ := h
  · simp only [Value.slice.injEq] at hv
    obtain ⟨rfl, rfl, rfl⟩ := hv
    exact Own.nil _ _ _
  · simp only [Value.slice.injEq] at hv
    obtain ⟨rfl, rfl, rfl⟩ := hv
    exact ⟨rfl, .inr ⟨g, c, cur, rfl, hb, hg, Nat.zero_le _, hm, hcs, by simp⟩⟩
section
variable {P : Program} {N : Nat} {Q : Exit → Fr → World → Prop} {l : Fr} {w : World} {ops : Array Oper} {K : Fr → World → Prop}
variable {d : Nat} {ty : TypeId} {pos : String} {af : Array Edge} {g : Option (Nat × Bool)}
theorem o_cap {t e : TypeId} {z : Value} {bytes : Nat} [h : SliceTy P t e z bytes] {x : Operand} {a : Option Addr} {n c : Nat} (hx : ev l x = some (.slice a n c)) (k : K ((d, .int .i64 (c : Nat)) :: l) w)
    (hg : wantedL ops l g = some true := by rfl) (hd : Nat.blt d N = true := by rfl) : OpW P N ops Q ⟨some d, .call { callee := .builtin .cap, args := #[x], argTypes := #[t] }, ty, pos, af, g⟩ l w K :=
  OpW.val (fun fr ha => by simp [execOp, resolve, invoke, builtin, ha.ev hx, Builtin.cap_, run_underlying h.und, goInt]) k hg hd
end
end Go.Fw
namespace Go.Proofs
open Go Go.Fw Go.RowKit Go.Rk
theorem GrowNil_any (n : Nat) (hn : n ≤ 1000000) (w : World) : Does Tryz.prog 123 [.slice none 0 0, .int .i64 (n : Nat)] w fun r w' => NewI w r w' [] := by
  refine Does.enter Tryz.func123 Tryz.ntmps123 rfl (by rfl) ?_
  repeat' (first|refine X.O ?_|refine X.A ?_|refine X.B ?_|refine X.C ?_|refine X.D ?_|refine X.E ?_|refine X.F ?_|refine X.G ?_|refine X.H ?_|refine X.I ?_|fail)
  refine WL.step (o_cap (by rfl) ?_)
  repeat' (first|refine X.O ?_|refine X.A ?_|refine X.B ?_|refine X.C ?_|refine X.D ?_|refine X.E ?_|refine X.F ?_|refine X.G ?_|refine X.H ?_|refine X.I ?_|fail)
  first|refine X.J (fun _ => ?_) (fun _ => ?_)|refine X.L (fun _ => ?_) (fun _ => ?_)|refine X.M (fun _ => ?_) (fun _ => ?_)|refine X.R (fun _ => ?_) (fun _ => ?_)|fail
  · rename_i hpos
    repeat' (first|refine X.O ?_|refine X.A ?_|refine X.B ?_|refine X.C ?_|refine X.D ?_|refine X.E ?_|refine X.F ?_|refine X.G ?_|refine X.H ?_|refine X.I ?_|fail)
    refine WL.step (o_cap (by rfl) ?_)
    refine WL.step (o_sliceH (i := 0) (by rfl) (by rfl) (by omega) ?_)
    repeat' (first|refine X.O ?_|refine X.A ?_|refine X.B ?_|refine X.C ?_|refine X.D ?_|refine X.E ?_|refine X.F ?_|refine X.G ?_|refine X.H ?_|refine X.I ?_|fail)
    refine WL.step (o_appendN (n := n) (us := []) (by rfl) (by first|rfl|exact X.T (by omega)) (Own.nil w w.heap.size 2) rfl (by simp [maxLen]; omega) (by simp; omega) (Nat.le_refl _) ?_)
    intro v1 w1 hown1 hg1 hbl1
    obtain ⟨a1, c1, hv1, _⟩ := hown1.shape
    rw [hv1] at hown1 ⊢
    repeat' (first|refine X.O ?_|refine X.A ?_|refine X.B ?_|refine X.C ?_|refine X.D ?_|refine X.E ?_|refine X.F ?_|refine X.G ?_|refine X.H ?_|refine X.I ?_|fail)
    refine WL.step (o_sliceH (i := 0) (by rfl) (by rfl) (by omega) ?_)
    repeat' (first|refine X.O ?_|refine X.A ?_|refine X.B ?_|refine X.C ?_|refine X.D ?_|refine X.E ?_|refine X.F ?_|refine X.G ?_|refine X.H ?_|refine X.I ?_|fail)
    refine ⟨_, ret1 rfl (by rfl), ?_⟩
    exact ⟨hown1.take0, hbl1⟩
  · rename_i hge
    repeat' (first|refine X.O ?_|refine X.A ?_|refine X.B ?_|refine X.C ?_|refine X.D ?_|refine X.E ?_|refine X.F ?_|refine X.G ?_|refine X.H ?_|refine X.I ?_|fail)
    refine ⟨_, ret1 rfl (by rfl), ?_⟩
    exact ⟨Own.nil _ _ _, Below.refl _ _⟩
theorem flatten_take_succ {xss : List (List Int)} {i : Nat} (h : i < xss.length) : (xss.take (i + 1)).flatten = (xss.take i).flatten ++ xss[i] := by
  rw [List.take_succ_eq_append_getElem h, List.flatten_append]; simp
theorem Concat_any {lo hi : Nat} {w : World} {v : Value} {xss : List (List Int)} (h : ISS lo hi w v xss) (hn : cntSS xss ≤ 1000000) (hl : xss.length ≤ 1000000) : Does Tryz.prog 100 [v] w fun r w' => NewI w r w' xss.flatten := by
  obtain ⟨a, c, hv⟩ := h.shape
  rw [hv] at h ⊢
  have hz := h.hi_le
  have hfl : ∀ ys : List (List Int), ys.flatten.length = cntSS ys := fun ys => by simp [cntSS, List.length_flatten]
  refine Does.enter Tryz.func100 Tryz.ntmps100 rfl (by rfl) ?_
  repeat' (first|refine X.O ?_|refine X.A ?_|refine X.B ?_|refine X.C ?_|refine X.D ?_|refine X.E ?_|refine X.F ?_|refine X.G ?_|refine X.H ?_|refine X.I ?_|fail)
  refine WP.loop (fun (i : Nat) => [(0, .slice a xss.length c), (3, .int .i64 (cntSS (xss.take i) : Nat)), (9, .slice a xss.length c), (10, .int .i64 (xss.length : Nat)), (11, .int .i64 (i : Nat))]) (fun i w2 => i ≤ xss.length ∧ w = w2)
    (fun i => xss.length - i) 0 ⟨rfl, rfl, rfl, rfl, rfl, trivial⟩ ⟨by omega, rfl⟩ ?_
  · rintro i _ ⟨hi1, rfl⟩
    repeat' (first|refine X.O ?_|refine X.A ?_|refine X.B ?_|refine X.C ?_|refine X.D ?_|refine X.E ?_|refine X.F ?_|refine X.G ?_|refine X.H ?_|refine X.I ?_|fail)
    first|refine X.J (fun _ => ?_) (fun _ => ?_)|refine X.L (fun _ => ?_) (fun _ => ?_)|refine X.M (fun _ => ?_) (fun _ => ?_)|refine X.R (fun _ => ?_) (fun _ => ?_)|fail
    · rename_i hlt
      have hlt' : i < xss.length := by omega
      have hcs := cntSS_take_succ hlt'
      have hcl := cntSS_take_le xss (i + 1)
      repeat' (first|refine X.O ?_|refine X.A ?_|refine X.B ?_|refine X.C ?_|refine X.D ?_|refine X.E ?_|refine X.F ?_|refine X.G ?_|refine X.H ?_|refine X.I ?_|fail)
      refine WL.ixload h (List.getElem?_eq_getElem hlt') ?_
      intro p u hu
      obtain ⟨ad, cd, hv2⟩ := hu.shape
      subst hv2
      repeat' (first|refine X.O ?_|refine X.A ?_|refine X.B ?_|refine X.C ?_|refine X.D ?_|refine X.E ?_|refine X.F ?_|refine X.G ?_|refine X.H ?_|refine X.I ?_|fail)
      exact ⟨i + 1, ⟨rfl, (by first|rfl|exact X.T (by omega)), rfl, rfl, rfl, trivial⟩, ⟨by omega, rfl⟩, by omega⟩
    · rename_i hge
      have : i = xss.length := by omega
      subst this
      rw [List.take_length]
      repeat' (first|refine X.O ?_|refine X.A ?_|refine X.B ?_|refine X.C ?_|refine X.D ?_|refine X.E ?_|refine X.F ?_|refine X.G ?_|refine X.H ?_|refine X.I ?_|fail)
      refine WL.call (GrowNil_any (cntSS xss) hn _) ?_
      intro v3 w3 hN3
      have hz3 := hN3.2.size
      repeat' (first|refine X.O ?_|refine X.A ?_|refine X.B ?_|refine X.C ?_|refine X.D ?_|refine X.E ?_|refine X.F ?_|refine X.G ?_|refine X.H ?_|refine X.I ?_|fail)
      refine WP.loop (fun (s : Nat × Value) => [(6, s.2), (25, .slice a xss.length c), (26, .int .i64 (xss.length : Nat)), (27, .int .i64 (s.1 : Nat))]) (fun s w4 => s.1 ≤ xss.length ∧ Own w.heap.size 2 w4 s.2 (Ints (xss.take s.1).flatten) ∧ Below w.heap.size w w4)
        (fun s => xss.length - s.1) (0, v3) ⟨rfl, rfl, rfl, rfl, trivial⟩ ⟨by omega, by simpa [Ints] using hN3.1, hN3.2⟩ ?_
      rintro ⟨j, vo⟩ w4 ⟨hj1, hown4, hb4⟩
      dsimp only at hj1 hown4 ⊢
      have hz4 := hb4.size
      repeat' (first|refine X.O ?_|refine X.A ?_|refine X.B ?_|refine X.C ?_|refine X.D ?_|refine X.E ?_|refine X.F ?_|refine X.G ?_|refine X.H ?_|refine X.I ?_|fail)
      first|refine X.J (fun _ => ?_) (fun _ => ?_)|refine X.L (fun _ => ?_) (fun _ => ?_)|refine X.M (fun _ => ?_) (fun _ => ?_)|refine X.R (fun _ => ?_) (fun _ => ?_)|fail
      · rename_i hltj
        have hltj' : j < xss.length := by omega
        have hcs := cntSS_take_succ hltj'
        have hcl := cntSS_take_le xss (j + 1)
        have hf1 := hfl (xss.take j)
        repeat' (first|refine X.O ?_|refine X.A ?_|refine X.B ?_|refine X.C ?_|refine X.D ?_|refine X.E ?_|refine X.F ?_|refine X.G ?_|refine X.H ?_|refine X.I ?_|fail)
        refine WL.ixload (h.below IS.stable hb4 hz) (List.getElem?_eq_getElem hltj') ?_
        intro p u hu
        repeat' (first|refine X.O ?_|refine X.A ?_|refine X.B ?_|refine X.C ?_|refine X.D ?_|refine X.E ?_|refine X.F ?_|refine X.G ?_|refine X.H ?_|refine X.I ?_|fail)
        refine WL.step (o_append (news := Ints xss[j]) (by rfl) (by rfl) hown4 (IS.src hu) Ints_one (by rw [Ints_length, Ints_length]; unfold maxLen; omega) (by rw [Ints_length, Ints_length]; omega) (by omega) ?_)
        intro v5 w5 hown5 _ hbl5 _
        repeat' (first|refine X.O ?_|refine X.A ?_|refine X.B ?_|refine X.C ?_|refine X.D ?_|refine X.E ?_|refine X.F ?_|refine X.G ?_|refine X.H ?_|refine X.I ?_|fail)
        refine ⟨(j + 1, v5), ⟨rfl, rfl, rfl, rfl, trivial⟩, ⟨by dsimp only; omega, ?_, hb4.trans hbl5⟩, by dsimp only; omega⟩
        dsimp only
        rw [flatten_take_succ hltj', Ints_append]
        exact hown5
      · rename_i hgej
        have : j = xss.length := by omega
        subst this
        rw [List.take_length] at hown4
        repeat' (first|refine X.O ?_|refine X.A ?_|refine X.B ?_|refine X.C ?_|refine X.D ?_|refine X.E ?_|refine X.F ?_|refine X.G ?_|refine X.H ?_|refine X.I ?_|fail)
        refine ⟨_, ret1 rfl (by rfl), ?_⟩
        exact ⟨hown4, hb4⟩
end Go.Proofs
/- slices.Concat of forests. -/
set_option maxRecDepth 8000
namespace Go.Proofs
open Go Go.Fw Go.RowKit Go.Rk
end Go.Proofs
