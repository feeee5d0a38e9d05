/- The reference's table of cuts: l07Cuts. -/
import Derived.Test.YtncilhecdihmeaaGreatG9
set_option maxRecDepth 8000
namespace Go.Fw
open Go Go.RowKit Go.Rk
section
variable {P : Program} {N : Nat} {Q : Exit → Fr → World → Prop} {S : World → Prop} {l : Fr} {w : World} {ops : Array Oper} {ks : List Nat} {s : Tr}
/-- x[i].f of a slice of structs, where several orders are walked. -/
theorem WV.ixfld3 {m m' m2 : Nat} {t t2 s' e : TypeId} {z : Array Value} {bytes f off : Nat} [SliceTy3 P t e z bytes] [FieldTy P s' f off] [CellTy P t2] {x y : Operand} {kk : IntKind} {i : Int} {j : Nat} {d1 d2 d3 lo : Nat} {e' : TypeId} {v u : Value} {ts : List Tri} {tr : Tri} {ty1 ty2 ty3 : TypeId} {pos1 pos2 pos3 : String} {af1 af2 af3 : Array Edge} {x2 x3 : Operand}
    (hi1 : ops[m]? = some ⟨some d1, .indexAddr t x y, ty1, pos1, af1, none⟩) (hi2 : ops[m']? = some ⟨some d2, .fieldAddr s' x2 f, ty2, pos2, af2, none⟩) (hi3 : ops[m2]? = some ⟨some d3, .load t2 x3, ty3, pos3, af3, none⟩)
    (hs : ∀ w', S w' → Own3 lo e' w' v ts) (ha : ts[j]? = some tr) (hf : tr.cells[off]? = some u) (hS : S w)
    (k : ∀ p q, WV P N ops Q S ks s ((d3, u) :: (d2, q) :: (d1, p) :: l) w) (hx : ev l x = some v := by rfl) (hy : ev l y = some (.int kk i) := by rfl) (hij : i = (j : Int) := by first | rfl | omega) (h2 : x2 = .tmp d1 := by rfl) (h3 : x3 = .tmp d2 := by rfl)
    (hd1 : Nat.blt d1 N = true := by rfl) (hd2 : Nat.blt d2 N = true := by rfl) (hd3 : Nat.blt d3 N = true := by rfl) :
    WV P N ops Q S ks (.q m (.q m' (.q m2 s))) l w := by
  subst h2 h3
  obtain ⟨g, c, rfl, _, _, _, _, _⟩ := (hs w hS).place ha
  have hlt := (List.getElem?_eq_some_iff.1 ha).1
  subst hij
  refine WV.q hi1 (q_ix3 hx hy (by omega) (by omega) rfl hd1) hS ?_
  rw [Nat.zero_add, Int.toNat_natCast]
  refine WV.q hi2 (q_field (look_cons_self _ _ _) rfl hd2) hS ?_
  have e1 : (⟨g, j * 3, none⟩ : Addr).add off = ⟨g, j * 3 + off, none⟩ := by unfold Addr.add; split <;> simp_all
  rw [e1]
  refine WV.q hi3 (q_load (look_cons_self _ _ _) (fun w' hw' => ?_) rfl hd3) hS (k _ _)
  obtain ⟨g', c', hv', _, _, hcell, _, _⟩ := (hs w' hw').place ha
  simp only [Value.slice.injEq, Option.some.injEq, Addr.mk.injEq] at hv'
  obtain ⟨⟨rfl, _⟩, _, _⟩ := hv'
  exact hcell off u hf
end
theorem MTab.below {e4 e3 e : TypeId} {lo : Nat} {w w' : World} {v : Value} {tab : List (List RowD)} (h : MTab e4 e3 e lo w v tab) (hb : Below w.heap.size w w') : MTab e4 e3 e lo w' v tab := by
  obtain ⟨vs, h1, h2, h3⟩ := h
  exact ⟨vs, h1.below hb (Nat.le_refl _), h2, fun i u rs hu hr => (h3 i u rs hu hr).tsame (TSame.below hb)⟩
theorem MRow.one {e3 e : TypeId} {w : World} {v : Value} {rs : List RowD} (h : MRow e3 e w v rs) : v.oneCell' = true := by
  obtain ⟨a, c, hv⟩ := h.rc.shape
  rw [hv]; rfl
/-- One row more, once the outer row has been appended to. -/
theorem MTab.snoc {e4 e3 e lo lo' : Nat} {w w' : World} {v v' u : Value} {vs : List Value} {tab : List (List RowD)} {rs : List RowD} (ho : Own lo e4 w v vs) (hl : vs.length = tab.length) (hr : ∀ (i : Nat) u rs, vs[i]? = some u → tab[i]? = some rs → MRow e3 e w u rs)
    (hu : MRow e3 e w u rs) (hown : Own lo' e4 w' v' (vs ++ [u])) (hz : w.heap.size ≤ w'.heap.size) (hf : ∀ k, k < w.heap.size → v.ownBlock ≠ some k → w'.heap[k]? = w.heap[k]?) (h1 : e4 ≠ e3) (h2 : e4 ≠ e) : MTab e4 e3 e lo' w' v' (tab ++ [rs]) := by
  have hts : TSame e3 e w w' := ⟨hz, fun b cur tt hcur htt => hf b (Array.getElem?_eq_some_iff.1 hcur).1 fun e' => by
    obtain ⟨c2, hc2⟩ := ho.elem e'
    rw [hc2] at hcur
    simp only [Option.some.injEq, Obj.cells.injEq] at hcur
    rcases htt with rfl | rfl
    · exact h1 hcur.2.1
    · exact h2 hcur.2.1⟩
  refine ⟨vs ++ [u], hown, by simp [hl], fun b u' rs' hu' hrs' => ?_⟩
  rw [List.getElem?_append] at hu' hrs'
  rw [← hl] at hrs'
  split at hu'
  · rename_i hi; rw [if_pos hi] at hrs'; exact (hr b u' rs' hu' hrs').tsame hts
  · rename_i hi
    rw [if_neg hi] at hrs'
    rcases Nat.eq_zero_or_pos (b - vs.length) with h0 | h0
    · rw [h0] at hu' hrs'; simp at hu' hrs'; subst hu' hrs'; exact hu.tsame hts
    · rw [List.getElem?_eq_none (by simp; omega)] at hu'; cases hu'
end Go.Fw
namespace Go.Rk
open Go.Fw Go.Proofs
def mapCutS (c : CutD) : RowD := (c.2.2, c.1.map findT, findT c.2.1)
end Go.Rk
namespace Go.Proofs
open Go Go.Fw Go.RowKit Go.Rk
instance : SliceTy3 Tryz.prog 100 102 #[.int .i64 0, .slice none 0 0, .int .i64 0] 40 := ⟨by kernel_rfl, by kernel_rfl, ⟨_, _, _, rfl⟩⟩
/-- The reference's table: a row for the empty tree ahead of the others. -/
def specTab : List (List RowD) := [] :: cutLit
set_option maxHeartbeats 4000000 in
theorem l07Cuts_any (w : World) : Does Tryz.prog 89 [] w fun r w' => TB 0 w'.heap.size w' r specTab ∧ Below w.heap.size w w' := by
  have htl := treesTo_len
  have hlit := specLit_eq
  have hll : cutLit.length = 37 := by rw [← hlit, List.length_map, htl]
  refine Does.enter Tryz.func89 Tryz.ntmps89 rfl (by rfl) ?_
  repeat' (first|refine X.O ?_|refine X.A ?_|refine X.B ?_|refine X.C ?_|refine X.D ?_|refine X.E ?_|refine X.F ?_|refine X.G ?_|refine X.H ?_|refine X.I ?_|fail)
  refine WL.call (l03All_any 6 (by omega) _) ?_
  rintro v1 w1 ⟨⟨vs1, o1⟩, hbl1⟩
  have hz1 := hbl1.size
  have hT1 := o1.rd
  obtain ⟨at1, ct, hvt⟩ := hT1.shape
  rw [htl] at hvt
  subst hvt
  repeat' (first|refine X.O ?_|refine X.A ?_|refine X.B ?_|refine X.C ?_|refine X.D ?_|refine X.E ?_|refine X.F ?_|refine X.G ?_|refine X.H ?_|refine X.I ?_|fail)
  refine WL.step (o_lit30 ?_)
  intro v2 w2 hown2 hbl2 hz2
  obtain ⟨a2, c2, hv2, _⟩ := hown2.shape
  have hrow2 : MRow 102 2 w2 v2 [] := ⟨_, [], hown2, MCs.nil _ _⟩
  refine WL.step (o_lit (us := [v2]) (by rfl) (by rfl) rfl (by decide) (one1 hrow2.one) ?_)
  intro v3 w3 hown3 hbl3 hz3 _
  have hbl13 : Below w1.heap.size w1 w3 := hbl2.trans (Below.mono hbl3 (by omega))
  have hM3 : MTab 100 102 2 w1.heap.size w3 v3 ([] :: cutLit.take 0) := ⟨[v2], hown3.lower (by omega), rfl, fun i u rs hu hrs => by
    match i, hu, hrs with
    | 0, hu, hrs => simp at hu hrs; subst hu hrs; exact hrow2.tsame (TSame.below hbl3)⟩
  repeat' (first|refine X.O ?_|refine X.A ?_|refine X.B ?_|refine X.C ?_|refine X.D ?_|refine X.E ?_|refine X.F ?_|refine X.G ?_|refine X.H ?_|refine X.I ?_|fail)
  refine WP.loop (fun (s : Nat × Value) => [(1, .slice at1 37 ct), (2, s.2), (3, .int .i64 (s.1 : Nat))])
    (fun s w4 => s.1 ≤ 37 ∧ MTab 100 102 2 w1.heap.size w4 s.2 ([] :: cutLit.take s.1) ∧ Below w1.heap.size w1 w4)
    (fun s => 37 - s.1) (0, v3) ⟨rfl, rfl, rfl, trivial⟩ ⟨by dsimp only; omega, hM3, hbl13⟩ ?_
  rintro ⟨i, vo⟩ w4 ⟨hi1, hM4, hbl4⟩
  dsimp only at hi1 hM4 ⊢
  have hz4 := hbl4.size
  have hT4 := hT1.below IS.stable hbl4 (Nat.le_refl _)
  repeat' (first|refine X.O ?_|refine X.A ?_|refine X.B ?_|refine X.C ?_|refine X.D ?_|refine X.E ?_|refine X.F ?_|refine X.G ?_|refine X.H ?_|refine X.I ?_|fail)
  first|refine X.J (fun _ => ?_) (fun _ => ?_)|refine X.L (fun _ => ?_) (fun _ => ?_)|refine X.M (fun _ => ?_) (fun _ => ?_)|refine X.R (fun _ => ?_) (fun _ => ?_)|fail
  · rename_i hlt
    have hli : i < (treesTo 6).length := by omega
    have hlc : i < cutLit.length := by omega
    have hmem : (treesTo 6)[i] ∈ treesTo 6 := List.getElem_mem hli
    have hok := treesTo_ok (n := 6) (by omega) _ hmem
    have hrow : (treeS 7 (treesTo 6)[i]).map rowS = cutLit[i] := by
      have : cutLit[i]? = some ((treeS 7 (treesTo 6)[i]).map rowS) := by rw [← hlit, List.getElem?_map, List.getElem?_eq_getElem hli]; rfl
      rw [List.getElem?_eq_getElem hlc] at this
      exact (Option.some.inj this).symm
    obtain ⟨t, ht⟩ : ∃ t, (treesTo 6)[i] = t := ⟨_, rfl⟩
    rw [ht] at hok hrow
    obtain ⟨hgo, hg0, hg1⟩ := treeS_ok 7 hok.1 (by omega) (by omega)
    have hp256 := pow_256 (n := t.length) (by omega)
    obtain ⟨hgl, hgn⟩ := tot_len hgo
    repeat' (first|refine X.O ?_|refine X.A ?_|refine X.B ?_|refine X.C ?_|refine X.D ?_|refine X.E ?_|refine X.F ?_|refine X.G ?_|refine X.H ?_|refine X.I ?_|fail)
    refine WL.ixload (j := i) hT4 (List.getElem?_eq_getElem hli) ?_
    intro p1 u hu
    replace hu : IS w.heap.size w1.heap.size w4 u t := by rw [← ht]; exact hu
    repeat' (first|refine X.O ?_|refine X.A ?_|refine X.B ?_|refine X.C ?_|refine X.D ?_|refine X.E ?_|refine X.F ?_|refine X.G ?_|refine X.H ?_|refine X.I ?_|fail)
    refine WL.call (l05Cuts_any 7 hu hok.1 (by omega) (by omega)) ?_
    rintro v5 w5 ⟨⟨ts5, o5, hA5⟩, hbl5⟩
    have hz5 := hbl5.size
    obtain ⟨G, hG⟩ : ∃ G, treeS 7 t = G := ⟨_, rfl⟩
    rw [hG] at hA5 hrow hgo hg0 hg1 hgl hgn
    have hl5 := hA5.1
    rw [List.length_map] at hl5
    obtain ⟨a5, c5, hv5, _⟩ := o5.shape
    subst hv5
    refine WL.step (o_lit30 ?_)
    intro v6 w6 hown6 hbl6 hz6
    repeat' (first|refine X.O ?_|refine X.A ?_|refine X.B ?_|refine X.C ?_|refine X.D ?_|refine X.E ?_|refine X.F ?_|refine X.G ?_|refine X.H ?_|refine X.I ?_|fail)
    refine WP.loop (fun (s : Nat × Value) => [(1, .slice at1 37 ct), (2, vo), (3, .int .i64 (i : Nat)), (4, .slice a5 ts5.length c5), (5, s.2), (6, .int .i64 (s.1 : Nat))])
      (fun s w7 => s.1 ≤ G.length ∧ (∃ tl, Own3 w5.heap.size 102 w7 s.2 tl ∧ MCs 2 w7 tl ((G.take s.1).map rowS)) ∧ Below w5.heap.size w5 w7)
      (fun s => G.length - s.1) (0, v6) ⟨rfl, rfl, rfl, rfl, rfl, rfl, trivial⟩ ⟨by dsimp only; omega, ⟨[], hown6, MCs.nil _ _⟩, hbl6⟩ ?_
    rintro ⟨j, vl⟩ w7 ⟨hj1, ⟨tl, ol, hMl⟩, hbl7⟩
    dsimp only at hj1 ol hMl ⊢
    have hz7 := hbl7.size
    have hbl47 : Below w4.heap.size w4 w7 := hbl5.trans (Below.mono hbl7 (by omega))
    have hlen : tl.length = j := by rw [hMl.1, List.length_map, List.length_take]; omega
    repeat' (first|refine X.O ?_|refine X.A ?_|refine X.B ?_|refine X.C ?_|refine X.D ?_|refine X.E ?_|refine X.F ?_|refine X.G ?_|refine X.H ?_|refine X.I ?_|fail)
    refine WL.step (o_len3 (by rfl) ?_)
    repeat' (first|refine X.O ?_|refine X.A ?_|refine X.B ?_|refine X.C ?_|refine X.D ?_|refine X.E ?_|refine X.F ?_|refine X.G ?_|refine X.H ?_|refine X.I ?_|fail)
    first|refine X.J (fun _ => ?_) (fun _ => ?_)|refine X.L (fun _ => ?_) (fun _ => ?_)|refine X.M (fun _ => ?_) (fun _ => ?_)|refine X.R (fun _ => ?_) (fun _ => ?_)|fail
    · rename_i hltj
      have hlj : j < G.length := by omega
      have hljt : j < ts5.length := by omega
      have hgoj := hgo _ (List.getElem_mem hlj)
      have hgnj := hgn _ (List.getElem_mem hlj)
      have hst : (G.take (j + 1)).map rowS = (G.take j).map rowS ++ [rowS G[j]] := by rw [List.take_succ_eq_append_getElem hlj, List.map_append]; rfl
      obtain ⟨⟨cc0, ct0, cn0⟩, hsE⟩ : ∃ s, ts5[j] = s := ⟨_, rfl⟩
      have hgx : ts5[j]? = some (cc0, ct0, cn0) := by rw [List.getElem?_eq_getElem hljt, hsE]
      have hsj := hA5.2 j _ _ hgx (show (G.map cutF)[j]? = some (cutF G[j]) by rw [List.getElem?_map, List.getElem?_eq_getElem hlj]; rfl)
      have hlx := hgoj.len (by omega)
      have hpos := hgoj.pos
      have hrs : rowS G[j] = mapCutS (cutF G[j]) := rfl
      have hcn : (cutF G[j]).2.2 = G[j].2.2 := rfl
      have hcc : (cutF G[j]).1 = G[j].1 := rfl
      obtain ⟨⟨cC, cT, cN⟩, hxE⟩ : ∃ s, cutF G[j] = s := ⟨_, rfl⟩
      rw [hxE] at hsj hrs hcn hcc
      rw [hrs] at hst
      dsimp only at hcn hcc
      rw [← hcn] at hgnj hpos
      rw [← hcc] at hlx
      have hcl := hlx.1
      have hnm : nm cN = cN := by unfold nm; omega
      have hse : cn0 = .int .i64 cN := hsj.2.2
      subst hse
      obtain ⟨ac, cc, hsc⟩ := hsj.1.shape
      dsimp only at hsc
      subst hsc
      obtain ⟨lot, hot⟩ := hsj.2.1
      dsimp only at hot
      have hR5 : ISS 0 w5.heap.size w5 (.slice ac cC.length cc) cC := hsj.1.rd
      have htI := hot.toIS (Nat.zero_le _)
      have hf38 : ∀ t, findT t ≤ 37 := fun t => by
        unfold findT
        split
        · rename_i hm; exact placeT_le hm
        · omega
      have hft := hf38 cT
      repeat' (first|refine X.O ?_|refine X.A ?_|refine X.B ?_|refine X.C ?_|refine X.D ?_|refine X.E ?_|refine X.F ?_|refine X.G ?_|refine X.H ?_|refine X.I ?_|fail)
      refine WP.midE (fun l' x => ∃ k, Agree l' [(1, .slice at1 37 ct), (2, vo), (3, .int .i64 (i : Nat)), (4, .slice a5 ts5.length c5), (5, vl), (6, .int .i64 (j : Nat)), (7, .pointer (some ⟨k, 0, none⟩))] ∧ Blk x k [.int .i64 cN, .slice none 0 0, .int .i64 (findT cT : Nat)] 102 ∧ w7.heap.size ≤ k ∧ Below w7.heap.size w7 x) ?_ ?_
      · refine WP.forkedL (fun w' => Below w7.heap.size w7 w') [] (.q 0 (.q 1 (.q 2 (.q 3 (.q 4 (.q 6 (.q 7 (.q 8 (.q 9 (.q 10 (.q 11 (.two 5 (.two 12 (.q 13 (.two 14 (.o 15 (.o 16 .nil)) 15 (.o 14 (.o 16 .nil)))) 15 (.o 12 (.q 13 (.o 14 (.o 16 .nil))))) 15 (.o 5 (.o 12 (.q 13 (.o 14 (.o 16 .nil))))))))))))))))) (by kernel_rfl) mixed ?_
        intro w8 hs8
        have hz8 := hs8.size
        have hS8 : Below w7.heap.size w7 w8 := hs8.below _
        have hAS : ∀ w', Below w7.heap.size w7 w' → Own3 w4.heap.size 91 w' (.slice a5 ts5.length c5) ts5 := fun w' h => (o5.below hbl7 (Nat.le_refl _)).below h (Nat.le_refl _)
        have hTS : ∀ w', Below w7.heap.size w7 w' → ISS w.heap.size w1.heap.size w' (.slice at1 37 ct) (treesTo 6) := fun w' h => (hT4.below IS.stable hbl47 (by omega)).below IS.stable h (by omega)
        have htS : ∀ w', Below w7.heap.size w7 w' → IS 0 w5.heap.size w' ct0 cT := fun w' h => (htI.below RI.stable hbl7 (Nat.le_refl _)).below RI.stable h (by omega)
        refine WV.q rfl (q_s (by rfl)) hS8 ?_
        refine WV.q rfl (q_s (by rfl)) hS8 ?_
        refine WV.ixfld3 (j := j) (off := 2) rfl rfl rfl hAS hgx (by rfl) hS8 ?_
        intro _ _
        refine WV.q rfl (q_s (by rfl)) hS8 ?_
        refine WV.q rfl (q_s (by rfl)) hS8 ?_
        refine WV.q rfl (q_s (by rfl)) hS8 ?_
        refine WV.ixfld3 (j := j) (off := 1) rfl rfl rfl hAS hgx (by rfl) hS8 ?_
        intro _ _
        have hadd : ((findT cT : Nat) : Int) - 1 + 1 = (findT cT : Nat) := by omega
        have fin : ∀ (l' : Fr) (x : World) (k : Nat), Blk x k [.int .i64 0, .slice none 0 0, .int .i64 0] 102 → w7.heap.size ≤ k → Below w7.heap.size w7 x → ∀ x1, Blk x1 k [.int .i64 cN, .slice none 0 0, .int .i64 (findT cT : Nat)] 102 → But k x x1 → w7.heap.size ≤ k ∧ Below w7.heap.size w7 x1 := fun l' x k hb hk hbl x1 hb1 hbut => ⟨hk, hbl.trans (hbut.below hk)⟩
        have hone : ∀ u ∈ [Value.int .i64 cN, .slice none 0 0, .int .i64 (findT cT : Nat)], u.oneCell' = true := fun x hx => by
          simp only [List.mem_cons, List.not_mem_nil, or_false] at hx
          rcases hx with rfl | rfl | rfl <;> rfl
        refine WV.two rfl rfl (o_call (l01Mod_any _ _) ?_) (o_alloc ?_)
        · rintro _ _ ⟨rfl, rfl⟩
          rw [hnm]
          refine ⟨hS8, ?_⟩
          refine WV.two rfl rfl (o_call (l03Find_any (hTS _ hS8) (htS _ hS8)) ?_) (o_alloc ?_)
          · rintro _ wa ⟨rfl, hsa⟩
            have hSa := hS8.trans (hsa.below w7.heap.size)
            refine ⟨hSa, ?_⟩
            refine WV.q rfl (q_add (by rfl) (by rfl) (by unfold InI; omega)) hSa ?_
            rw [hadd]
            refine WV.two rfl rfl (o_build (us := [.int .i64 cN, .int .i64 (findT cT : Nat)]) (cells := [.int .i64 cN, .slice none 0 0, .int .i64 (findT cT : Nat)]) (by rfl) (by rfl) ?_) (o_alloc ?_)
            · refine ⟨hSa, ?_⟩
              refine WV.o rfl (o_alloc ?_)
              intro wb hbb hblb hzb
              have hSb := hSa.trans (Below.mono hblb hSa.size)
              refine ⟨hSb, ?_⟩
              refine WV.o rfl (o_storeS (vs := [.int .i64 cN, .slice none 0 0, .int .i64 (findT cT : Nat)]) (by rfl) (by rfl) hbb (by rfl) (by rfl) hone ?_)
              intro wc hbc hbutc
              have hf := fin [] _ _ hbb hSa.size hSb _ hbc hbutc
              refine ⟨hf.2, WV.nil (thenN ?_)⟩
              exact ⟨_, ⟨rfl, rfl, rfl, rfl, rfl, rfl, rfl, trivial⟩, hbc, hf⟩
            · intro wb hbb hblb hzb
              have hSb := hSa.trans (Below.mono hblb hSa.size)
              refine ⟨hSb, ?_⟩
              refine WV.o rfl (o_build (us := [.int .i64 cN, .int .i64 (findT cT : Nat)]) (cells := [.int .i64 cN, .slice none 0 0, .int .i64 (findT cT : Nat)]) (by rfl) (by rfl) ?_)
              refine ⟨hSb, ?_⟩
              refine WV.o rfl (o_storeS (vs := [.int .i64 cN, .slice none 0 0, .int .i64 (findT cT : Nat)]) (by rfl) (by rfl) hbb (by rfl) (by rfl) hone ?_)
              intro wc hbc hbutc
              have hf := fin [] _ _ hbb hSa.size hSb _ hbc hbutc
              refine ⟨hf.2, WV.nil (thenN ?_)⟩
              exact ⟨_, ⟨rfl, rfl, rfl, rfl, rfl, rfl, rfl, trivial⟩, hbc, hf⟩
          · intro wb hbb hblb hzb
            have hSb := hS8.trans (Below.mono hblb hS8.size)
            refine ⟨hSb, ?_⟩
            refine WV.o rfl (o_call (l03Find_any (hTS _ hSb) (htS _ hSb)) ?_)
            rintro _ wa ⟨rfl, hsa⟩
            have hSa := hSb.trans (hsa.below w7.heap.size)
            have hba := hbb.still hsa
            refine ⟨hSa, ?_⟩
            refine WV.q rfl (q_add (by rfl) (by rfl) (by unfold InI; omega)) hSa ?_
            rw [hadd]
            refine WV.o rfl (o_build (us := [.int .i64 cN, .int .i64 (findT cT : Nat)]) (cells := [.int .i64 cN, .slice none 0 0, .int .i64 (findT cT : Nat)]) (by rfl) (by rfl) ?_)
            refine ⟨hSa, ?_⟩
            refine WV.o rfl (o_storeS (vs := [.int .i64 cN, .slice none 0 0, .int .i64 (findT cT : Nat)]) (by rfl) (by rfl) hba (by rfl) (by rfl) hone ?_)
            intro wc hbc hbutc
            have hf := fin [] _ _ hba hS8.size hSa _ hbc hbutc
            refine ⟨hf.2, WV.nil (thenN ?_)⟩
            exact ⟨_, ⟨rfl, rfl, rfl, rfl, rfl, rfl, rfl, trivial⟩, hbc, hf⟩
        · intro wb hbb hblb hzb
          have hSb := hS8.trans (Below.mono hblb hS8.size)
          refine ⟨hSb, ?_⟩
          refine WV.o rfl (o_call (l01Mod_any _ _) ?_)
          rintro _ _ ⟨rfl, rfl⟩
          rw [hnm]
          refine ⟨hSb, ?_⟩
          refine WV.o rfl (o_call (l03Find_any (hTS _ hSb) (htS _ hSb)) ?_)
          rintro _ wa ⟨rfl, hsa⟩
          have hSa := hSb.trans (hsa.below w7.heap.size)
          have hba := hbb.still hsa
          refine ⟨hSa, ?_⟩
          refine WV.q rfl (q_add (by rfl) (by rfl) (by unfold InI; omega)) hSa ?_
          rw [hadd]
          refine WV.o rfl (o_build (us := [.int .i64 cN, .int .i64 (findT cT : Nat)]) (cells := [.int .i64 cN, .slice none 0 0, .int .i64 (findT cT : Nat)]) (by rfl) (by rfl) ?_)
          refine ⟨hSa, ?_⟩
          refine WV.o rfl (o_storeS (vs := [.int .i64 cN, .slice none 0 0, .int .i64 (findT cT : Nat)]) (by rfl) (by rfl) hba (by rfl) (by rfl) hone ?_)
          intro wc hbc hbutc
          have hf := fin [] _ _ hba hS8.size hSa _ hbc hbutc
          refine ⟨hf.2, WV.nil (thenN ?_)⟩
          exact ⟨_, ⟨rfl, rfl, rfl, rfl, rfl, rfl, rfl, trivial⟩, hbc, hf⟩
      · rintro l' w9 ⟨kb, hag, hb9, hkb, hbl79⟩
        refine WP.frame _ hag ?_
        clear hag
        have hz9 := hbl79.size
        have hkb9 := hb9.lt
        repeat' (first|refine X.O ?_|refine X.A ?_|refine X.B ?_|refine X.C ?_|refine X.D ?_|refine X.E ?_|refine X.F ?_|refine X.G ?_|refine X.H ?_|refine X.I ?_|fail)
        refine WP.loop (fun (s : Nat × Value) => [(1, .slice at1 37 ct), (2, vo), (3, .int .i64 (i : Nat)), (4, .slice a5 ts5.length c5), (5, vl), (6, .int .i64 (j : Nat)), (7, .pointer (some ⟨kb, 0, none⟩)), (8, .int .i64 (s.1 : Nat))])
          (fun s wk => s.1 ≤ cC.length ∧ Blk wk kb [.int .i64 cN, s.2, .int .i64 (findT cT : Nat)] 102 ∧ Own w9.heap.size 2 wk s.2 (Ints ((cC.take s.1).map fun b => ((findT b : Nat) : Int))) ∧ Below w7.heap.size w7 wk ∧ w9.heap.size ≤ wk.heap.size)
          (fun s => cC.length - s.1) (0, .slice none 0 0) ⟨rfl, rfl, rfl, rfl, rfl, rfl, rfl, rfl, trivial⟩ ⟨by dsimp only; omega, hb9, Own.nil _ _ _, hbl79, Nat.le_refl _⟩ ?_
        rintro ⟨k, vk⟩ wk ⟨hk1, hbk, ok, hblk, hz9k⟩
        dsimp only at hk1 hbk ok hblk hz9k ⊢
        have hzk := hblk.size
        have hlk2 : ((cC.take k).map fun b => ((findT b : Nat) : Int)).length = k := by rw [List.length_map, List.length_take]; omega
        have hTk : ISS w.heap.size w1.heap.size wk (.slice at1 37 ct) (treesTo 6) := (hT4.below IS.stable hbl47 (by omega)).below IS.stable hblk (by omega)
        have o5k : Own3 w4.heap.size 91 wk (.slice a5 ts5.length c5) ts5 := (o5.below hbl7 (Nat.le_refl _)).below hblk (Nat.le_refl _)
        obtain ⟨avk, cvk, hvk, _⟩ := ok.shape
        repeat' (first|refine X.O ?_|refine X.A ?_|refine X.B ?_|refine X.C ?_|refine X.D ?_|refine X.E ?_|refine X.F ?_|refine X.G ?_|refine X.H ?_|refine X.I ?_|fail)
        refine WL.ixfld3 (j := j) (off := 0) o5k hgx (by rfl) ?_
        intro _ _
        repeat' (first|refine X.O ?_|refine X.A ?_|refine X.B ?_|refine X.C ?_|refine X.D ?_|refine X.E ?_|refine X.F ?_|refine X.G ?_|refine X.H ?_|refine X.I ?_|fail)
        first|refine X.J (fun _ => ?_) (fun _ => ?_)|refine X.L (fun _ => ?_) (fun _ => ?_)|refine X.M (fun _ => ?_) (fun _ => ?_)|refine X.R (fun _ => ?_) (fun _ => ?_)|fail
        · rename_i hltk
          have hlk : k < cC.length := by omega
          have hfk := hf38 cC[k]
          have hRk : ISS 0 w5.heap.size wk (.slice ac cC.length cc) cC := (hR5.below IS.stable hbl7 (Nat.le_refl _)).below IS.stable hblk (by omega)
          repeat' (first|refine X.O ?_|refine X.A ?_|refine X.B ?_|refine X.C ?_|refine X.D ?_|refine X.E ?_|refine X.F ?_|refine X.G ?_|refine X.H ?_|refine X.I ?_|fail)
          refine WP.drawn (fun w' => Below w9.heap.size wk w') [(0, true), (1, true), (2, true), (3, true), (4, true), (5, true), (6, true), (7, true), (8, true), (9, true), (10, true), (11, false), (12, true), (13, false), (14, false), (15, true), (1016, false)] (by kernel_rfl) mixed ?_
          intro wa hsa
          have hza := hsa.size
          have hSa : Below w9.heap.size wk wa := hsa.below _
          have hAS : ∀ w', Below w9.heap.size wk w' → Own3 w4.heap.size 91 w' (.slice a5 ts5.length c5) ts5 := fun w' h => o5k.keep fun b hb => h.block b (by have := ((o5.block b hb)).2; omega)
          refine WS.fld rfl rfl (fun w' h => hbk.below h (by omega)) hSa ?_
          intro q3
          repeat' (first|refine X.U rfl ?_|refine X.V rfl ?_|refine X.W rfl ?_|refine X.Y rfl ?_|refine X.Z rfl ?_|refine WS.nil ?_|fail)
          refine WS.ixfld3 (j := j) (off := 0) rfl rfl rfl hAS hgx (by rfl) hSa ?_
          intro _ _
          repeat' (first|refine X.U rfl ?_|refine X.V rfl ?_|refine X.W rfl ?_|refine X.Y rfl ?_|refine X.Z rfl ?_|refine WS.nil ?_|fail)
          refine WS.ixload (j := k) rfl rfl (hRk.still IS.stable hsa) (List.getElem?_eq_getElem hlk) (fun w' hw' => same_below hSa hw' (by omega)) hSa ?_
          intro q4 u4 hu4
          refine WS.call rfl (l03Find_any (hTk.below IS.stable hSa (by omega)) hu4) ?_
          rintro _ wb ⟨rfl, hsb⟩
          have hzb := hsb.size
          have hSb := hSa.trans (hsb.below w9.heap.size)
          refine ⟨hSb, ?_⟩
          refine WS.q rfl (q_add (by rfl) (by rfl) (by unfold InI; omega)) hSb ?_
          rw [show ((findT cC[k] : Nat) : Int) - 1 + 1 = (findT cC[k] : Nat) by omega]
          refine WS.op rfl (o_lit (us := [.int .i64 ((findT cC[k] : Nat) : Int)]) (by rfl) (by rfl) rfl (by decide) (one1 rfl) ?_)
          intro vl2 wc hlc2 hblc hzc _
          have hSc : Below w9.heap.size wk wc := hSb.trans (Below.mono hblc (by omega))
          refine ⟨hSc, ?_⟩
          have okc := ((ok.still hsa).still hsb).below hblc (by omega)
          refine WS.op rfl (o_append (us := Ints ((cC.take k).map fun b => ((findT b : Nat) : Int))) (news := [.int .i64 ((findT cC[k] : Nat) : Int)]) (by rfl) (by rfl) okc hlc2.src (one1 rfl) (by rw [Ints_length, hlk2]; simp [maxLen]; omega) (by rw [Ints_length, hlk2]; simp; omega) (by omega) ?_)
          intro vd wd okd hgd hbld _
          have hzd := hgd.size
          have hSd : Below w9.heap.size wk wd := hSc.trans hbld
          refine ⟨hSd, ?_⟩
          obtain ⟨avd, cvd, hvd, _⟩ := okd.shape
          have hbd := hbk.below hSd (by omega)
          refine WS.fldst (off := 1) rfl rfl hbd hSd ?_ (hu := by rw [hvd]; rfl)
          intro q5 we hbe hbute
          have hze := hbute.size
          refine WS.nil ?_
          have hint : Ints ((cC.take (k + 1)).map fun b => ((findT b : Nat) : Int)) = Ints ((cC.take k).map fun b => ((findT b : Nat) : Int)) ++ [.int .i64 ((findT cC[k] : Nat) : Int)] := by
            rw [List.take_succ_eq_append_getElem hlk, List.map_append, Ints_append]; rfl
          repeat' (first|refine X.O ?_|refine X.A ?_|refine X.B ?_|refine X.C ?_|refine X.D ?_|refine X.E ?_|refine X.F ?_|refine X.G ?_|refine X.H ?_|refine X.I ?_|fail)
          refine ⟨(k + 1, vd), ⟨rfl, rfl, rfl, rfl, rfl, rfl, rfl, (by first|rfl|exact X.T (by omega)), trivial⟩, ⟨by dsimp only; omega, hbe, ?_, (hblk.trans (Below.mono hSd (by omega))).trans (hbute.below hkb), by omega⟩, by dsimp only; omega⟩
          dsimp only
          rw [hint]
          exact okd.keep fun b hb => hbute.block b (by have := (okd.block b hb).1; omega)
        · rename_i hgek
          have hke : k = cC.length := by omega
          subst hke
          rw [List.take_length] at ok
          have hmp : mapCutS (cC, cT, cN) = (cN, cC.map findT, findT cT) := rfl
          have hcm : (cC.map fun b => ((findT b : Nat) : Int)) = (cC.map findT).map fun (n : Nat) => (n : Int) := by rw [List.map_map]; rfl
          rw [hcm] at ok
          repeat' (first|refine X.O ?_|refine X.A ?_|refine X.B ?_|refine X.C ?_|refine X.D ?_|refine X.E ?_|refine X.F ?_|refine X.G ?_|refine X.H ?_|refine X.I ?_|fail)
          refine WL.step (o_loadS (by rfl) hbk (by rfl) ?_)
          have hmc : MC 2 wk (.int .i64 cN, vk, .int .i64 (findT cT : Nat)) (mapCutS (cC, cT, cN)) := by rw [hmp]; exact ⟨rfl, ⟨_, ok⟩, rfl⟩
          have olk := ol.below hblk (Nat.le_refl _)
          refine WL.app3 (tr := (.int .i64 cN, vk, .int .i64 (findT cT : Nat))) (fun _ => by rfl) (by rfl) olk hmc.one (by unfold maxLen; omega) (by omega) (by omega) ?_
          intro q8 vd wd hap _
          have hts := hap.tsame (e1 := 2) (e2 := 2) olk (by decide) (by decide)
          repeat' (first|refine X.O ?_|refine X.A ?_|refine X.B ?_|refine X.C ?_|refine X.D ?_|refine X.E ?_|refine X.F ?_|refine X.G ?_|refine X.H ?_|refine X.I ?_|fail)
          exact ⟨(j + 1, vd), ⟨rfl, rfl, rfl, rfl, rfl, (by first|rfl|exact X.T (by omega)), trivial⟩, ⟨by dsimp only; omega, ⟨_, hap.own, by
            rw [hst]
            exact ((hMl.tsame (TSame.below (e := 2) (e2 := 2) hblk) (Or.inl rfl)).tsame hts (Or.inl rfl)).snoc (hmc.tsame hts (Or.inl rfl))⟩, (hbl7.trans (Below.mono hblk (by omega))).trans hap.bel⟩, by dsimp only; omega⟩
    · rename_i hgej
      have hje : j = G.length := by omega
      subst hje
      rw [List.take_length, hrow] at hMl
      obtain ⟨vs4, oM, hMl4, hMr4⟩ := hM4.below (Below.mono hbl47 (Nat.le_refl _))
      have hvl4 : vs4.length = i + 1 := by rw [hMl4, List.length_cons, List.length_take]; omega
      have hrowl : MRow 102 2 w7 vl cutLit[i] := ⟨_, _, ol, hMl⟩
      repeat' (first|refine X.O ?_|refine X.A ?_|refine X.B ?_|refine X.C ?_|refine X.D ?_|refine X.E ?_|refine X.F ?_|refine X.G ?_|refine X.H ?_|refine X.I ?_|fail)
      refine o_append1 (u := vl) (fun _ => by rfl) (by rfl) oM hrowl.one (by rw [hvl4]; unfold maxLen; omega) (by rw [hvl4]; omega) (by omega) ?_
      intro q10 vn wn hownn hbln hfn hzn hnn
      have hMn := MTab.snoc oM hMl4 hMr4 hrowl hownn (by omega) hfn (by decide) (by decide)
      repeat' (first|refine X.O ?_|refine X.A ?_|refine X.B ?_|refine X.C ?_|refine X.D ?_|refine X.E ?_|refine X.F ?_|refine X.G ?_|refine X.H ?_|refine X.I ?_|fail)
      exact ⟨(i + 1, vn), ⟨rfl, rfl, (by first|rfl|exact X.T (by omega)), trivial⟩, ⟨by dsimp only; omega, by
        dsimp only
        rw [List.take_succ_eq_append_getElem hlc, ← List.cons_append]
        exact hMn, (hbl4.trans (Below.mono hbl47 (by omega))).trans hbln⟩, by dsimp only; omega⟩
  · rename_i hge
    have hie : i = 37 := by omega
    subst hie
    rw [List.take_of_length_le (by omega)] at hM4
    repeat' (first|refine X.O ?_|refine X.A ?_|refine X.B ?_|refine X.C ?_|refine X.D ?_|refine X.E ?_|refine X.F ?_|refine X.G ?_|refine X.H ?_|refine X.I ?_|fail)
    refine ⟨_, ret1 rfl (by rfl), ?_⟩
    exact ⟨hM4.tb, hbl1.trans (Below.mono hbl4 (by omega))⟩
end Go.Proofs
