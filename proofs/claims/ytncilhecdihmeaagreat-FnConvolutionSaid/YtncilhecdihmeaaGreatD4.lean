/- The drawn tableaus: l09Spoil, l01From, DrawOrderOf. -/
import Derived.Test.YtncilhecdihmeaaGreatD3
import Derived.Test.YtncilhecdihmeaaGreatA26
set_option maxRecDepth 8000
namespace Go.Fw
open Go Go.RowKit Go.Rk
/-- A small tableau, or something like one. -/
def Sm (x : TabD) : Prop := x.1.length ≤ 8 ∧ (∀ r ∈ x.1, r.length ≤ 9) ∧ x.2.length ≤ 9
theorem OwSSv.keepOut {e e2 : TypeId} {lo lo' hi : Nat} {w w' : World} {v u : Value} {vs us : List Value} {xss : List (List Int)} (h : OwSSv e e2 lo hi w v vs xss) (hu : Own lo' e2 w u us)
    (ap : ∀ (i : Nat) u', vs[i]? = some u' → ∀ k, u'.ownBlock = some k → u.ownBlock ≠ some k) (hz : w.heap.size ≤ w'.heap.size) (hs : ∀ j, j < w.heap.size → u.ownBlock ≠ some j → w'.heap[j]? = w.heap[j]?) : OwSSv e e2 lo hi w' v vs xss :=
  ⟨h.own.keep fun k hk => hs k (h.own.block k hk).2 (h.own.ne_block hu h.ne hk), h.lt, Nat.le_trans h.hi_le hz, h.len, fun i u' xs hu' hx => by
    have hr := h.rows i u' xs hu' hx
    exact ⟨hr.own.keep fun k hk => hs k (hr.own.block k hk).2 (ap i u' hu' k hk), hr.lt, Nat.le_trans hr.hi_le hz⟩, h.apart, h.ne⟩
theorem Own.neB {lo b : Nat} {e tt : TypeId} {w : World} {v : Value} {us cs : List Value} (h : Own lo e w v us) (hb : Blk w b cs tt) (hne : e ≠ tt) {k : Nat} (hk : v.ownBlock = some k) : k ≠ b := fun he => by
  obtain ⟨cur, hc⟩ := h.elem hk
  subst he
  unfold Blk at hb
  rw [hc] at hb
  simp only [Option.some.injEq, Obj.cells.injEq] at hb
  exact hne hb.2.1
theorem Own.outB {lo b : Nat} {e tt : TypeId} {w : World} {v : Value} {us cs : List Value} (h : Own lo e w v us) (hb : Blk w b cs tt) (hne : e ≠ tt) : v.ownBlock ≠ some b := fun he => h.neB hb hne he rfl
/-- What is left of a drawn tableau once it is spoilt: two slices to be read. -/
structure Spoilt (lo b : Nat) (w : World) (va vb : Value) (x : TabD) (t : TypeId) : Prop where
  blk : Blk w b [va, vb] t
  rows : ISS lo w.heap.size w va x.1
  last : IS lo w.heap.size w vb x.2
  sm : Sm x
end Go.Fw
namespace Go.Proofs
open Go Go.Fw Go.RowKit Go.Rk
theorem l01From_any {lo hi : Nat} {w : World} {v : Value} {bs : List Int} (h : IU lo hi w v bs) (hn : bs.length ≤ 4096) :
    Does Tryz.prog 79 [v] w fun r w' => r = .pointer (some ⟨w.heap.size, 0, none⟩) ∧ Srce w.heap.size w' ∧ Chg 0 0 w w' := by
  obtain ⟨a, c, hv⟩ := h.shape
  subst hv
  have hhl := h.hi_le
  refine Does.enter Tryz.func79 Tryz.ntmps79 rfl (by rfl) ?_
  repeat' (first|refine X.O ?_|refine X.A ?_|refine X.B ?_|refine X.C ?_|refine X.D ?_|refine X.E ?_|refine X.F ?_|refine X.G ?_|refine X.H ?_|refine X.I ?_|fail)
  refine WL.step (o_convK (by rfl) (wrap_u64 (by omega) (by omega)) ?_)
  refine WL.step (o_arithU (by rfl) (by rfl) (Or.inl ⟨rfl, rfl⟩) ?_)
  refine WL.step (o_build (us := [.slice a bs.length c, .int .u64 (IntKind.u64.wrap (5381 + (bs.length : Int)))]) (cells := [.slice a bs.length c, .int .i64 0, .int .u64 (IntKind.u64.wrap (5381 + (bs.length : Int)))]) (by rfl) (by rfl) ?_)
  refine WL.step (o_box (by rfl) ?_)
  intro w1 hb1 hbl1 hz1
  have hb0 := wrap_u64_bd (5381 + (bs.length : Int))
  repeat' (first|refine X.O ?_|refine X.A ?_|refine X.B ?_|refine X.C ?_|refine X.D ?_|refine X.E ?_|refine X.F ?_|refine X.G ?_|refine X.H ?_|refine X.I ?_|fail)
  refine WP.loop (fun (k : Nat) => [(0, .slice a bs.length c), (3, .pointer (some ⟨w.heap.size, 0, none⟩)), (4, .int .i64 (k : Nat))])
    (fun k w2 => k ≤ bs.length ∧ (∃ hh, 0 ≤ hh ∧ hh ≤ 18446744073709551615 ∧ Blk w2 w.heap.size [.slice a bs.length c, .int .i64 0, .int .u64 hh] 98) ∧ Below w.heap.size w w2 ∧ w2.heap.size = w.heap.size + 1)
    (fun k => bs.length - k) 0 ⟨rfl, rfl, rfl, trivial⟩ ⟨by omega, ⟨_, hb0.1, hb0.2, hb1⟩, hbl1, hz1⟩ ?_
  rintro k w2 ⟨hk, ⟨hh, hh0, hh1, hb2⟩, hbl2, hz2⟩
  have h2 := h.below RU.stable hbl2 hhl
  repeat' (first|refine X.A ?_|refine X.B ?_|refine X.C ?_|refine X.D ?_|refine X.E ?_|refine WL.nil ?_|refine thenN ?_|refine WP.seq ?_|refine WP.block ?_|refine thenR ?_|refine thenX ?_|refine blkN ?_|refine X.F ?_|refine blkR ?_|refine X.G ?_|refine WP.ret ?_|refine WP.exit ?_|refine WP.skip ?_|refine WP.label ?_|refine X.H ?_|refine X.I ?_|fail)
  refine WP.mid (fun l w3 => Agree l [(0, .slice a bs.length c), (3, .pointer (some ⟨w.heap.size, 0, none⟩)), (4, .int .i64 (k : Nat)), (19, .bool (decide (k < bs.length)))] ∧ w3 = w2) ?_ ?_
  · repeat' (first|refine X.O ?_|refine X.A ?_|refine X.B ?_|refine X.C ?_|refine X.D ?_|refine X.E ?_|refine X.F ?_|refine X.G ?_|refine X.H ?_|refine X.I ?_|fail)
    first | refine WL.gsplitD (by rfl) (by rfl) (by rfl) (fun _ => ?_) (fun _ => ?_) | refine WL.gsplitND (by rfl) (by rfl) (by rfl) (fun _ => ?_) (fun _ => ?_) | refine WL.gsplitN (by rfl) (by rfl) (by rfl) (fun _ => ?_) (fun _ => ?_) | refine WL.gsplit (by rfl) (by rfl) (by rfl) (fun _ => ?_) (fun _ => ?_) | fail
    · rename_i hlt
      repeat' (first|refine X.O ?_|refine X.A ?_|refine X.B ?_|refine X.C ?_|refine X.D ?_|refine X.E ?_|refine X.F ?_|refine X.G ?_|refine X.H ?_|refine X.I ?_|fail)
      refine ⟨⟨rfl, rfl, rfl, ?_, trivial⟩, rfl⟩
      show some (Value.bool (decide ((k : Int) < 4096))) = some (Value.bool (decide (k < bs.length)))
      rw [decide_eq_true (by omega), decide_eq_true (by omega)]
    · rename_i hge
      repeat' (first|refine X.O ?_|refine X.A ?_|refine X.B ?_|refine X.C ?_|refine X.D ?_|refine X.E ?_|refine X.F ?_|refine X.G ?_|refine X.H ?_|refine X.I ?_|fail)
      refine ⟨⟨rfl, rfl, rfl, ?_, trivial⟩, rfl⟩
      show some (Value.bool false) = some (Value.bool (decide (k < bs.length)))
      rw [decide_eq_false (by omega)]
  rintro l3 w3 ⟨hag, rfl⟩
  refine WP.frame _ hag ?_
  repeat' (first|refine X.O ?_|refine X.A ?_|refine X.B ?_|refine X.C ?_|refine X.D ?_|refine X.E ?_|refine X.F ?_|refine X.G ?_|refine X.H ?_|refine X.I ?_|fail)
  first|refine X.J (fun _ => ?_) (fun _ => ?_)|refine X.L (fun _ => ?_) (fun _ => ?_)|refine X.M (fun _ => ?_) (fun _ => ?_)|refine X.R (fun _ => ?_) (fun _ => ?_)|fail
  · rename_i hlt
    repeat' (first|refine X.O ?_|refine X.A ?_|refine X.B ?_|refine X.C ?_|refine X.D ?_|refine X.E ?_|refine X.F ?_|refine X.G ?_|refine X.H ?_|refine X.I ?_|fail)
    refine WP.forkedL (fun w' => w'.heap = w3.heap) [14, 15] (.q 0 (.q 1 (.q 2 (.q 3 (.q 4 (.q 5 (.q 6 (.q 7 (.q 8 (.q 9 (.q 10 (.q 11 (.q 12 (.q 13 (.o 14 (.o 15 .nil)))))))))))))))) (by kernel_rfl) mixed ?_
    intro w4 hs4
    have hw4 : w4.heap = w3.heap := hs4.heap
    refine WV.q rfl (q_s (by rfl)) hw4 ?_
    refine WV.q rfl (q_s (by rfl)) hw4 ?_
    refine WV.q rfl (q_nilCheck (by rfl)) hw4 ?_
    refine WV.fld rfl rfl (fun w' h => hb2.keep (by rw [h])) hw4 ?_
    intro p1
    refine WV.q rfl (q_arithU (by rfl) (by rfl) (Or.inr ⟨rfl, rfl⟩)) hw4 ?_
    refine WV.q rfl (q_s (by rfl)) hw4 ?_
    refine WV.q rfl (q_s (by rfl)) hw4 ?_
    refine WV.ixload (j := k) rfl rfl (h2.still RU.stable hs4) (List.getElem?_eq_getElem hlt) (fun w' hw' => same_heap (hw'.trans hw4.symm)) hw4 ?_
    rintro p2 _ ⟨rfl, hu0, hu1⟩
    refine WV.q rfl (q_convK (by rfl) (wrap_u64 hu0 (by omega))) hw4 ?_
    refine WV.q rfl (q_arithU (by rfl) (by rfl) (Or.inl ⟨rfl, rfl⟩)) hw4 ?_
    refine WV.q rfl (q_arithU (by rfl) (by rfl) (Or.inl ⟨rfl, rfl⟩)) hw4 ?_
    refine WV.q rfl (q_nilCheck (by rfl)) hw4 ?_
    refine WV.fldst rfl rfl (hb2.still hs4) ?_
    intro p3 w5 hb5 hbut5
    have hz5 := hbut5.size
    have hz4 := hs4.size
    refine WV.nil ?_
    repeat' (first|refine X.O ?_|refine X.A ?_|refine X.B ?_|refine X.C ?_|refine X.D ?_|refine X.E ?_|refine X.F ?_|refine X.G ?_|refine X.H ?_|refine X.I ?_|fail)
    exact ⟨k + 1, ⟨rfl, rfl, (by first|rfl|exact X.T (by omega)), trivial⟩, ⟨by omega, ⟨_, (wrap_u64_bd _).1, (wrap_u64_bd _).2, hb5⟩, (hbl2.trans (hs4.below _)).trans (hbut5.below (Nat.le_refl _)), by omega⟩, by omega⟩
  · repeat' (first|refine X.O ?_|refine X.A ?_|refine X.B ?_|refine X.C ?_|refine X.D ?_|refine X.E ?_|refine X.F ?_|refine X.G ?_|refine X.H ?_|refine X.I ?_|fail)
    refine ⟨_, ret1 rfl (by rfl), ?_⟩
    exact ⟨rfl, ⟨lo, hi, _, bs, 0, hh, hhl, h2, Nat.zero_le _, hh0, hh1, hb2⟩, Chg.of_below hbl2⟩
end Go.Proofs
