/- The drawn tableaus: l09Spoil, l01From, DrawOrderOf. -/
import Derived.Test.YthepgmajeljdhaaGreatDoorD3
import Derived.Test.YthepgmajeljdhaaGreatDoorA26
set_option maxRecDepth 8000
namespace Go.Fw
open Go Go.RowKit Go.Rk
/-- A small tableau, or something like one. -/
def Sm (x : TabD) : Prop := x.1.length ≤ 8 ∧ (∀ r ∈ x.1, r.length ≤ 9) ∧ x.2.length ≤ 9
theorem OwSSv.keepOut {e e2 : TypeId} {lo lo' hi : Nat} {w w' : World} {v u : Value} {vs us : List Value} {xss : List (List Int)} (h : OwSSv e e2 lo hi w v vs xss) (hu : Own lo' e2 w u us)
    (ap : ∀ (i : Nat) u', vs[i]? = some u' → ∀ k, u'.ownBlock = some k → u.ownBlock ≠ some k) (hz : w.heap.size ≤ w'.heap.size) (hs : ∀ j, j < w.heap.size → u.ownBlock ≠ some j → w'.heap[j]? = w.heap[j]?) : OwSSv e e2 lo hi w' v vs xss :=
  ⟨h.own.keep fun k hk => hs k (h.own.block k hk).2 (h.own.ne_block hu h.ne hk), h.lt, Nat.le_trans h.hi_le hz, h.len, fun i u' xs hu' hx => by
    have hr := h.rows i u' xs hu' hx
    exact ⟨hr.own.keep fun k hk => hs k (hr.own.block k hk).2 (ap i u' hu' k hk), hr.lt, Nat.le_trans hr.hi_le hz⟩, h.apart, h.ne⟩
theorem Own.neB {lo b : Nat} {e tt : TypeId} {w : World} {v : Value} {us cs : List Value} (h : Own lo e w v us) (hb : Blk w b cs tt) (hne : e ≠ tt) {k : Nat} (hk : v.ownBlock = some k) : k ≠ b := fun he => by
  obtain ⟨cur, hc⟩ := h.elem hk
  subst he
  unfold Blk at hb
  rw [hc] at hb
  simp only [Option.some.injEq, Obj.cells.injEq] at hb
  exact hne hb.2.1
theorem Own.outB {lo b : Nat} {e tt : TypeId} {w : World} {v : Value} {us cs : List Value} (h : Own lo e w v us) (hb : Blk w b cs tt) (hne : e ≠ tt) : v.ownBlock ≠ some b := fun he => h.neB hb hne he rfl
/-- What is left of a drawn tableau once it is spoilt: two slices to be read. -/
structure Spoilt (lo b : Nat) (w : World) (va vb : Value) (x : TabD) (t : TypeId) : Prop where
  blk : Blk w b [va, vb] t
  rows : ISS lo w.heap.size w va x.1
  last : IS lo w.heap.size w vb x.2
  sm : Sm x
end Go.Fw
namespace Go.Proofs
open Go Go.Fw Go.RowKit Go.Rk
set_option maxHeartbeats 4000000 in
theorem l09Spoil_any {sb : Nat} {w : World} (h : Srce sb w) (most : Nat) (hm0 : 1 ≤ most) (hm1 : most ≤ 8) :
    Does Tryz.prog 24 [.pointer (some ⟨sb, 0, none⟩), .int .i64 (most : Nat)] w fun r w' => (∃ x, Sm x ∧ IT w.heap.size w'.heap.size w' r x) ∧ Drew sb w w' := by
  have hlt := h.lt
  refine Does.enter Tryz.func24 Tryz.ntmps24 rfl (by rfl) ?_
  repeat' (first|refine X.O ?_|refine X.A ?_|refine X.B ?_|refine X.C ?_|refine X.D ?_|refine X.E ?_|refine X.F ?_|refine X.G ?_|refine X.H ?_|refine X.I ?_|fail)
  refine WL.step (o_alloc ?_)
  intro w1 hb1 hbl1 hz1
  have hd1 : Drew sb w w1 := (Drew.refl h).thenBelow hbl1 hlt
  repeat' (first|refine X.O ?_|refine X.A ?_|refine X.B ?_|refine X.C ?_|refine X.D ?_|refine X.E ?_|refine X.F ?_|refine X.G ?_|refine X.H ?_|refine X.I ?_|fail)
  refine WL.call (l09Draw_any hd1.src most hm0 hm1) ?_
  rintro v2 w2 ⟨⟨n, x, hn0, hn1, ⟨hx1, hxr, hx2⟩, hT2⟩, hdr2⟩
  have hz2 := hdr2.chg.size
  have hd2 := hd1.trans hdr2
  obtain ⟨va, vb, vs, rfl, oT⟩ := hT2
  obtain ⟨aa, ca, hva, _⟩ := oT.rows.own.shape
  rw [oT.rows.len, hx1] at hva
  obtain ⟨ab, cb, hvb, _⟩ := oT.last.own.shape
  rw [Ints_length, hx2] at hvb
  subst hva hvb
  refine WL.var (vs := [.slice aa n ca, .slice ab n cb]) (fun _ => by rfl) (by rfl) two_cells ?_
  intro w3 hb3 hbl3 hz3
  obtain ⟨b5, hb5⟩ : ∃ b5, w2.heap.size = b5 := ⟨_, rfl⟩
  rw [hb5] at hb3 hbl3 hz3 oT ⊢
  have hd3 := hd2.thenBelow (Below.mono hbl3 (by omega)) hlt
  repeat' (first|refine X.O ?_|refine X.A ?_|refine X.B ?_|refine X.C ?_|refine X.D ?_|refine X.E ?_|refine X.F ?_|refine X.G ?_|refine X.H ?_|refine X.I ?_|fail)
  refine WL.call (l01Next_any hd3.src 40 (by omega)) ?_
  rintro _ w4 ⟨⟨z, rfl, _, _⟩, hdr4⟩
  have hz4 := hdr4.chg.size
  have hd4 := hd3.trans hdr4
  have hc34 : Chg sb (sb + 1) w2 w4 := (Chg.refl _ _ _ |>.thenBelow (by rw [hb5]; exact hbl3)).trans hdr4.chg
  have oR := oT.rows.chg hc34 (by omega)
  have oL := oT.last.chg hc34 (by omega)
  have hap := oT.apart
  have hvl : vs.length = n := by rw [oR.len, hx1]
  have hb44 := ((hb1.chg hdr2.chg (by omega)).below hbl3 (by omega)).chg hdr4.chg (by omega)
  have hb54 := hb3.chg hdr4.chg (by omega)
  clear hb3 hb1
  have hsm : Sm x := ⟨by omega, fun r hr => by rw [hxr r hr]; omega, by omega⟩
  refine WL.nil ?_
  refine thenN ?_
  refine WP.mid (fun l w5 => Agree l [(4, .pointer (some ⟨w.heap.size, 0, none⟩)), (5, .pointer (some ⟨b5, 0, none⟩))] ∧ Blk w5 w.heap.size [.slice none 0 0, .slice none 0 0] 27 ∧ (∃ va vb y, Spoilt (w.heap.size + 1) b5 w5 va vb y 27) ∧ Drew sb w w5) ?_ ?_
  · repeat' (first|refine X.O ?_|refine X.A ?_|refine X.B ?_|refine X.C ?_|refine X.D ?_|refine X.E ?_|refine X.F ?_|refine X.G ?_|refine X.H ?_|refine X.I ?_|fail)
    first|refine X.J (fun _ => ?_) (fun _ => ?_)|refine X.L (fun _ => ?_) (fun _ => ?_)|refine X.M (fun _ => ?_) (fun _ => ?_)|refine X.R (fun _ => ?_) (fun _ => ?_)|fail
    · -- one number more behind B
      repeat' (first|refine X.O ?_|refine X.A ?_|refine X.B ?_|refine X.C ?_|refine X.D ?_|refine X.E ?_|refine X.F ?_|refine X.G ?_|refine X.H ?_|refine X.I ?_|fail)
      refine WL.fld hb54 ?_
      intro p1
      refine o_append1 (u := .int .i64 1) (fun _ => by rfl) (by rfl) oL.own rfl (by simp [Ints, hx2, maxLen]; omega) (by simp [Ints, hx2]; omega) (by have := (show w1.heap.size ≤ w4.heap.size by omega); omega) ?_
      intro p2 v6 w6 hown6 hbl6 hf6 hz6 _
      obtain ⟨a6, n6, c6, rfl⟩ : ∃ a n c, v6 = Value.slice a n c := by obtain ⟨a, c, h, _⟩ := hown6.shape; exact ⟨_, _, _, h⟩
      have hfb : ∀ b cs, Blk w4 b cs 27 → Blk w6 b cs 27 := fun b cs hb => hb.keep (hf6 b hb.lt (oL.own.outB hb (by decide)))
      have oR6 := oR.keepOut oL.own (fun i u hu k hk e => hap i u hu k hk e) (by omega) hf6
      refine WL.fldst (hfb _ _ hb54) ?_
      intro p3 w7 hb7 hbut7
      have hz7 := hbut7.size
      have hown7 : Own w1.heap.size 2 w7 (.slice a6 n6 c6) (Ints x.2 ++ [.int .i64 1]) := hown6.keep fun k hk => hbut7.block k (by have := hown6.neB (hfb _ _ hb54) (by decide) hk; omega)
      have oR7 := oR6.chg hbut7.chg (by omega)
      repeat' (first|refine X.O ?_|refine X.A ?_|refine X.B ?_|refine X.C ?_|refine X.D ?_|refine X.E ?_|refine X.F ?_|refine X.G ?_|refine X.H ?_|refine X.I ?_|fail)
      refine ⟨⟨rfl, rfl, trivial⟩, (hfb _ _ hb44).chg hbut7.chg (by omega), ⟨_, _, (x.1, x.2 ++ [1]), hb7, SL.wide IS.stable oR7.rd (by omega) (by omega) (Nat.le_refl _), ?_, ⟨hsm.1, hsm.2.1, by simp; omega⟩⟩, (hd4.thenBelow (Below.mono hbl6 (by omega)) hlt).thenBut hbut7 (by omega) (by omega)⟩
      have e : Ints x.2 ++ [.int .i64 1] = Ints (x.2 ++ [1]) := by rw [Ints_append]; rfl
      rw [e] at hown7
      exact hown7.toIS (by omega)
    repeat' (first|refine X.O ?_|refine X.A ?_|refine X.B ?_|refine X.C ?_|refine X.D ?_|refine X.E ?_|refine X.F ?_|refine X.G ?_|refine X.H ?_|refine X.I ?_|fail)
    first|refine X.J (fun _ => ?_) (fun _ => ?_)|refine X.L (fun _ => ?_) (fun _ => ?_)|refine X.M (fun _ => ?_) (fun _ => ?_)|refine X.R (fun _ => ?_) (fun _ => ?_)|fail
    · -- one number more behind the first row
      have h0x : 0 < x.1.length := by omega
      have h0v : 0 < vs.length := by omega
      obtain ⟨u, hu⟩ : ∃ u, vs[0] = u := ⟨_, rfl⟩
      have hu0 : vs[0]? = some u := by rw [List.getElem?_eq_getElem h0v, hu]
      have hrow := oR.rows 0 u x.1[0] hu0 (List.getElem?_eq_getElem h0x)
      have hrl := hxr _ (List.getElem_mem h0x)
      obtain ⟨g, cg, hvg, hg1, hg2, _, _, hob⟩ := oR.own.cell (i := 0) (List.getElem?_eq_getElem h0v)
      have hug : u.ownBlock ≠ some g := oR.own.ne_block hrow.own oR.ne hob
      have hub5 := hrow.own.outB hb54 (by decide)
      have hub4 := hrow.own.outB hb44 (by decide)
      repeat' (first|refine X.O ?_|refine X.A ?_|refine X.B ?_|refine X.C ?_|refine X.D ?_|refine X.E ?_|refine X.F ?_|refine X.G ?_|refine X.H ?_|refine X.I ?_|fail)
      refine WP.drawn (fun w' => w4.heap.size ≤ w'.heap.size ∧ ∀ k, k < w4.heap.size → u.ownBlock ≠ some k → w'.heap[k]? = w4.heap[k]?) [(0, true), (1, true), (2, true), (3, true), (4, true), (5, true), (6, false), (7, false), (8, true), (1009, false)] (by kernel_rfl) mixed ?_
      intro w5 hs5
      have hz5 := hs5.size
      have hS5 : w4.heap.size ≤ w5.heap.size ∧ ∀ k, k < w4.heap.size → u.ownBlock ≠ some k → w5.heap[k]? = w4.heap[k]? := ⟨by omega, fun k _ _ => by rw [hs5.heap]⟩
      have own5 := oR.own.still hs5
      refine WS.fld rfl rfl (fun w' h => hb54.keep (h.2 b5 hb54.lt hub5)) hS5 ?_
      intro p1
      refine WS.fld rfl rfl (fun w' h => hb54.keep (h.2 b5 hb54.lt hub5)) hS5 ?_
      intro p2
      refine WS.ixload (R := fun _ _ _ u x => u = x) (xs := vs) (a := u) (j := 0) (lo := g) (hi := g + 1) rfl rfl ?_ hu0 (fun w' hw' k hk1 hk2 => ?_) hS5 ?_ (hx := by rw [← hvl]; rfl)
      · have := (own5.raise hob).toSL (R := fun _ _ _ u x => u = x) (xs := vs) rfl (Nat.le_refl _) (hi := g + 1) (fun k hk => by rw [hob] at hk; simp only [Option.some.injEq] at hk; omega) (by omega) (fun i u x hu hx => by rw [hu] at hx; simpa using hx)
        rw [hvl]
        exact this
      · obtain rfl : k = g := by omega
        rw [hw'.2 k (by omega) hug, hS5.2 k (by omega) hug]
      intro p3 u' hu'
      rw [show u' = u from hu']
      refine WS.op rfl (o_lit (us := [.int .i64 1]) (by rfl) (by rfl) rfl (by decide) (one1 rfl) ?_)
      intro v6 w6 hown6 hbl6 hz6 _
      have hS6 : w4.heap.size ≤ w6.heap.size ∧ ∀ k, k < w4.heap.size → u.ownBlock ≠ some k → w6.heap[k]? = w4.heap[k]? := ⟨by omega, fun k hk hk2 => by rw [hbl6.block k (by omega)]; exact hS5.2 k hk hk2⟩
      refine ⟨hS6, ?_⟩
      refine WS.op rfl (o_appendK (us := Ints x.1[0]) (news := [.int .i64 1]) (by rfl) (by rfl) ((hrow.own.still hs5).below hbl6 (Nat.le_refl _)) hown6.src (one1 rfl) (by simp [Ints, maxLen]; omega) (by simp [Ints]; omega) (by omega) (by simp) ?_)
      intro v7 w7 hown7 hg7 hbl7 hk7
      have hz7 := hg7.size
      have hf7 : ∀ k, k < w4.heap.size → u.ownBlock ≠ some k → w7.heap[k]? = w4.heap[k]? := fun k hk hk2 => by rw [hg7.block k (by omega) (fun e => hk2 e.symm)]; exact hS6.2 k hk hk2
      have hS7 : w4.heap.size ≤ w7.heap.size ∧ ∀ k, k < w4.heap.size → u.ownBlock ≠ some k → w7.heap[k]? = w4.heap[k]? := ⟨by omega, hf7⟩
      refine ⟨hS7, ?_⟩
      obtain ⟨a7, c7, hv7, _⟩ := hown7.shape
      have own7' := oR.own.keep (w' := w7) fun k hk => hf7 k (oR.own.block k hk).2 (oR.own.ne_block hrow.own oR.ne hk)
      refine WS.ixstore (j := 0) rfl rfl hS7 own7' h0v ?_ (hu := by rw [hv7]; rfl)
      intro p5 w8 hown8 hbl8 hz8 hf8
      have oN := oR.pushRow (zs := x.1[0] ++ [1]) hu0 (List.getElem?_eq_getElem h0x) (by rw [Ints_append]; exact hown7) hf7 (by omega) (fun k hk => (hk7 k hk).imp id (fun h => by omega)) hown8 hf8 hz8
      have hva5 := oR.own.outB hb54 (by decide)
      have hva4 := oR.own.outB hb44 (by decide)
      have oL8 : Own w1.heap.size 2 w8 (.slice ab n cb) (Ints x.2) := oL.own.keep fun k hk => by
        rw [hf8 k (fun e => oR.own.ne_block oL.own oR.ne e hk), hf7 k (oL.own.block k hk).2 (fun e => hap 0 u hu0 k e hk)]
      refine WS.nil ?_
      repeat' (first|refine X.O ?_|refine X.A ?_|refine X.B ?_|refine X.C ?_|refine X.D ?_|refine X.E ?_|refine X.F ?_|refine X.G ?_|refine X.H ?_|refine X.I ?_|fail)
      refine ⟨⟨rfl, rfl, trivial⟩, hb44.keep (by rw [hf8 _ hva4, hf7 _ hb44.lt hub4]), ⟨_, _, (x.1.set 0 (x.1[0] ++ [1]), x.2), hb54.keep (by rw [hf8 _ hva5, hf7 _ hb54.lt hub5]), SL.wide IS.stable oN.rd (by omega) (Nat.le_refl _) (Nat.le_refl _), oL8.toIS (by omega), ⟨by simp; omega, fun r hr => ?_, by dsimp only; omega⟩⟩, hd4.thenBelow ((((hs5.below _).trans (Below.mono hbl6 (by omega))).trans (Below.mono hbl7 (by omega))).trans (Below.mono hbl8 (by omega))) (by omega)⟩
      rcases List.mem_or_eq_of_mem_set hr with hr | rfl
      · exact hsm.2.1 r hr
      · simp; omega
    repeat' (first|refine X.O ?_|refine X.A ?_|refine X.B ?_|refine X.C ?_|refine X.D ?_|refine X.E ?_|refine X.F ?_|refine X.G ?_|refine X.H ?_|refine X.I ?_|fail)
    first|refine X.J (fun _ => ?_) (fun _ => ?_)|refine X.L (fun _ => ?_) (fun _ => ?_)|refine X.M (fun _ => ?_) (fun _ => ?_)|refine X.R (fun _ => ?_) (fun _ => ?_)|fail
    · -- another number in the first row
      have h0x : 0 < x.1.length := by omega
      have h0v : 0 < vs.length := by omega
      obtain ⟨u, hu⟩ : ∃ u, vs[0] = u := ⟨_, rfl⟩
      have hu0 : vs[0]? = some u := by rw [List.getElem?_eq_getElem h0v, hu]
      have hrow := oR.rows 0 u x.1[0] hu0 (List.getElem?_eq_getElem h0x)
      have hrl := hxr _ (List.getElem_mem h0x)
      obtain ⟨au, cu, hvu, _⟩ := hrow.own.shape
      rw [Ints_length, hrl] at hvu
      have hub5 := hrow.own.outB hb54 (by decide)
      have hub4 := hrow.own.outB hb44 (by decide)
      repeat' (first|refine X.O ?_|refine X.A ?_|refine X.B ?_|refine X.C ?_|refine X.D ?_|refine X.E ?_|refine X.F ?_|refine X.G ?_|refine X.H ?_|refine X.I ?_|fail)
      refine WP.drawn (fun w' => Chg sb (sb + 1) w4 w') [(0, true), (1, true), (2, true), (3, true), (4, true), (5, false), (6, false), (7, true), (1008, false)] (by kernel_rfl) mixed ?_
      intro w5 hs5
      have hz5 := hs5.size
      have hS5 : Chg sb (sb + 1) w4 w5 := (Chg.of_still hs5).none
      refine WS.fld rfl rfl (fun w' h => hb54.chg h (by omega)) hS5 ?_
      intro p1
      refine WS.ixload (R := fun _ _ _ u x => u = x) (xs := vs) (a := u) (j := 0) (lo := w1.heap.size) (hi := w4.heap.size) rfl rfl ?_ hu0 (fun w' hw' k hk1 hk2 => ?_) hS5 ?_ (hx := by rw [← hvl]; rfl)
      · have := (oR.own.still hs5).toSL (R := fun _ _ _ u x => u = x) (xs := vs) rfl (Nat.le_refl _) (hi := w4.heap.size) (fun k hk => (oR.own.block k hk).2) (by omega) (fun i u x hu hx => by rw [hu] at hx; simpa using hx)
        rw [hvl]
        exact this
      · rw [hw'.block k hk2 (by omega), hS5.block k hk2 (by omega)]
      intro p3 u' hu'
      rw [show u' = u from hu']
      repeat' (first|refine X.U rfl ?_|refine X.V rfl ?_|refine X.W rfl ?_|refine X.Y rfl ?_|refine X.Z rfl ?_|refine WS.nil ?_|fail)
      refine WS.op rfl (o_lit (us := Ints [-1, 10007]) (by rfl) (by rfl) rfl (by decide) Ints_one ?_)
      intro v6 w6 hown6 hbl6 hz6 _
      have hd6 := (hd4.then0 (Chg.of_still hs5)).thenBelow (Below.mono hbl6 (by omega)) hlt
      have hS6 : Chg sb (sb + 1) w4 w6 := hS5.trans (Chg.of_below hbl6).none
      refine ⟨hS6, ?_⟩
      refine WS.call rfl (l01Pick_any (xs := [-1, 10007]) hd6.src (hown6.toIS (Nat.le_refl _)) (by omega) (by decide)) ?_
      rintro _ w7 ⟨⟨y, rfl, _⟩, hdr7⟩
      have hz7 := hdr7.chg.size
      have hS7 := hS6.trans hdr7.chg
      have hd7 := hd6.trans hdr7
      refine ⟨hS7, ?_⟩
      have oR7 := oR.chg hS7 (by omega)
      have oL7 := oL.chg hS7 (by omega)
      subst hvu
      refine WS.ixstore (j := 0) rfl rfl hS7 (hrow.own.keep (w' := w7) fun k hk => hS7.block k (hrow.own.block k hk).2 (by have := (hrow.own.block k hk).1; omega)) (by rw [Ints_length]; omega) ?_
      intro p5 w8 hown8 hbl8 hz8 hf8
      rw [Ints_set] at hown8
      have oN := oR7.setRow hu0 hown8 hz8 hf8
      have oL8 : Own w1.heap.size 2 w8 (.slice ab n cb) (Ints x.2) := oL7.own.keep fun k hk => hf8 k (fun e => hap 0 _ hu0 k e hk)
      refine WS.nil ?_
      repeat' (first|refine X.O ?_|refine X.A ?_|refine X.B ?_|refine X.C ?_|refine X.D ?_|refine X.E ?_|refine X.F ?_|refine X.G ?_|refine X.H ?_|refine X.I ?_|fail)
      refine ⟨⟨rfl, rfl, trivial⟩, (hb44.chg hS7 (by omega)).keep (hf8 _ hub4), ⟨_, _, (x.1.set 0 (x.1[0].set 0 y), x.2), (hb54.chg hS7 (by omega)).keep (hf8 _ hub5), SL.wide IS.stable oN.rd (by omega) (by omega) (Nat.le_refl _), oL8.toIS (by omega), ⟨by simp; omega, fun r hr => ?_, by dsimp only; omega⟩⟩, hd7.thenBelow (Below.mono hbl8 (by omega)) (by omega)⟩
      rcases List.mem_or_eq_of_mem_set hr with hr | rfl
      · exact hsm.2.1 r hr
      · simp; omega
    repeat' (first|refine X.O ?_|refine X.A ?_|refine X.B ?_|refine X.C ?_|refine X.D ?_|refine X.E ?_|refine X.F ?_|refine X.G ?_|refine X.H ?_|refine X.I ?_|fail)
    first|refine X.J (fun _ => ?_) (fun _ => ?_)|refine X.L (fun _ => ?_) (fun _ => ?_)|refine X.M (fun _ => ?_) (fun _ => ?_)|refine X.R (fun _ => ?_) (fun _ => ?_)|fail
    · -- nothing
      repeat' (first|refine X.O ?_|refine X.A ?_|refine X.B ?_|refine X.C ?_|refine X.D ?_|refine X.E ?_|refine X.F ?_|refine X.G ?_|refine X.H ?_|refine X.I ?_|fail)
      refine WL.step (o_build (us := []) (cells := [.slice none 0 0, .slice none 0 0]) (by rfl) (by rfl) ?_)
      refine WL.step (o_storeS (vs := [.slice none 0 0, .slice none 0 0]) (by rfl) (by rfl) hb54 (by rfl) (by rfl) two_cells ?_)
      intro w7 hb7 hbut7
      have hz7 := hbut7.size
      repeat' (first|refine X.O ?_|refine X.A ?_|refine X.B ?_|refine X.C ?_|refine X.D ?_|refine X.E ?_|refine X.F ?_|refine X.G ?_|refine X.H ?_|refine X.I ?_|fail)
      exact ⟨⟨rfl, rfl, trivial⟩, hb44.chg hbut7.chg (by omega), ⟨_, _, ([], []), hb7, SL.nil _ (Nat.le_refl _), SL.nil _ (Nat.le_refl _), ⟨by simp, by simp, by simp⟩⟩, hd4.thenBut hbut7 (by omega) (by omega)⟩
    repeat' (first|refine X.O ?_|refine X.A ?_|refine X.B ?_|refine X.C ?_|refine X.D ?_|refine X.E ?_|refine X.F ?_|refine X.G ?_|refine X.H ?_|refine X.I ?_|fail)
    first|refine X.J (fun _ => ?_) (fun _ => ?_)|refine X.L (fun _ => ?_) (fun _ => ?_)|refine X.M (fun _ => ?_) (fun _ => ?_)|refine X.R (fun _ => ?_) (fun _ => ?_)|fail
    · -- a row less
      repeat' (first|refine X.O ?_|refine X.A ?_|refine X.B ?_|refine X.C ?_|refine X.D ?_|refine X.E ?_|refine X.F ?_|refine X.G ?_|refine X.H ?_|refine X.I ?_|fail)
      refine WL.fld hb54 ?_
      intro p1
      refine WL.step (o_sliceL (i := 1) (by rfl) (by rfl) (by omega) ?_)
      refine WL.fldst hb54 ?_
      intro p3 w7 hb7 hbut7
      have hz7 := hbut7.size
      repeat' (first|refine X.O ?_|refine X.A ?_|refine X.B ?_|refine X.C ?_|refine X.D ?_|refine X.E ?_|refine X.F ?_|refine X.G ?_|refine X.H ?_|refine X.I ?_|fail)
      have hrd := (oR.chg hbut7.chg (by omega)).rd
      have hx11 : 1 ≤ x.1.length := by omega
      refine ⟨⟨rfl, rfl, trivial⟩, hb44.chg hbut7.chg (by omega), ⟨_, _, (x.1.drop 1, x.2), hb7, SL.wide IS.stable (SL.drop hrd hx11) (by omega) (by omega) (Nat.le_refl _), SL.wide RI.stable (oL.chg hbut7.chg (by omega)).rd (by omega) (by omega) (Nat.le_refl _), ⟨by have := hsm.1; simp; omega, fun r hr => hsm.2.1 r (List.mem_of_mem_drop hr), hsm.2.2⟩⟩, hd4.thenBut hbut7 (by omega) (by omega)⟩
    repeat' (first|refine X.O ?_|refine X.A ?_|refine X.B ?_|refine X.C ?_|refine X.D ?_|refine X.E ?_|refine X.F ?_|refine X.G ?_|refine X.H ?_|refine X.I ?_|fail)
    exact ⟨⟨rfl, rfl, trivial⟩, hb44, ⟨_, _, x, hb54, SL.wide IS.stable oR.rd (by omega) (by omega) (Nat.le_refl _), SL.wide RI.stable oL.rd (by omega) (by omega) (Nat.le_refl _), hsm⟩, hd4⟩
  rintro l5 w5 ⟨hag, hb45, ⟨va, vb, y, hsp⟩, hd5⟩
  refine WP.frame _ hag ?_
  obtain ⟨a1, c1, hv1⟩ := hsp.rows.shape
  obtain ⟨a2, c2, hv2⟩ := hsp.last.shape
  subst hv1 hv2
  repeat' (first|refine X.O ?_|refine X.A ?_|refine X.B ?_|refine X.C ?_|refine X.D ?_|refine X.E ?_|refine X.F ?_|refine X.G ?_|refine X.H ?_|refine X.I ?_|fail)
  refine WL.step (o_loadS (by rfl) hsp.blk (by rfl) ?_)
  refine WL.step (o_storeS (vs := [.slice a1 y.1.length c1, .slice a2 y.2.length c2]) (by rfl) (by rfl) hb45 (by rfl) (by rfl) two_cells ?_)
  intro w6 hb6 hbut6
  have hz6 := hbut6.size
  repeat' (first|refine X.O ?_|refine X.A ?_|refine X.B ?_|refine X.C ?_|refine X.D ?_|refine X.E ?_|refine X.F ?_|refine X.G ?_|refine X.H ?_|refine X.I ?_|fail)
  refine ⟨_, retS rfl (by rfl) hb6 (by rfl), ⟨y, hsp.sm, ?_⟩, hd5.thenBut hbut6 hlt (Nat.le_refl _)⟩
  have hz5 := hd5.chg.size
  exact ⟨_, _, rfl, SL.wide IS.stable (SL.chg IS.stable hsp.rows hbut6.chg (by omega)) (by omega) (by omega) (Nat.le_refl _), SL.wide RI.stable (SL.chg RI.stable hsp.last hbut6.chg (by omega)) (by omega) (by omega) (Nat.le_refl _)⟩
end Go.Proofs
