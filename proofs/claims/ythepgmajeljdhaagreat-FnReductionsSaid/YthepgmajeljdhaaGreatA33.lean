/- The order of stages that turns one tableau into another: the public functions. -/
import Derived.Test.YthepgmajeljdhaaGreatA32
namespace Go.Proofs
open Go Go.Fw Go.RowKit Go.Rk
theorem StageOrder_any {lo hi lo' hi' : Nat} {w : World} {v v' : Value} {x y : TabD} (h : IT lo hi w v x) (h' : IT lo' hi' w v' y) : Does Tryz.prog 23 [v, v'] w fun r w' => ResI w r w' (stageOrder x y) := by
  have hz := h.hi_le
  have hz' := h'.hi_le
  obtain ⟨va, vb, rfl, hA, hB⟩ := h
  obtain ⟨va', vb', rfl, hA', hB'⟩ := h'
  have hT : IT lo hi w (.agg #[va, vb]) x := ⟨_, _, rfl, hA, hB⟩
  have hT' : IT lo' hi' w (.agg #[va', vb']) y := ⟨_, _, rfl, hA', hB'⟩
  refine Does.enter Tryz.func23 Tryz.ntmps23 rfl (by rfl) ?_
  repeat' (first|refine X.O ?_|refine X.A ?_|refine X.B ?_|refine X.C ?_|refine X.D ?_|refine X.E ?_|refine X.F ?_|refine X.G ?_|refine X.H ?_|refine X.I ?_|fail)
  refine WL.step (o_box (by rfl) ?_)
  intro w1 hb1 hbl1 hz1
  refine WL.step (o_box (by rfl) ?_)
  intro w2 hb2 hbl2 hz2
  have hbl12 : Below w.heap.size w w2 := hbl1.trans (Below.mono hbl2 (by omega))
  replace hb1 := hb1.below hbl2 (by omega)
  replace hT := hT.below hbl12 hz
  replace hT' := hT'.below hbl12 hz'
  repeat' (first|refine X.O ?_|refine X.A ?_|refine X.B ?_|refine X.C ?_|refine X.D ?_|refine X.E ?_|refine X.F ?_|refine X.G ?_|refine X.H ?_|refine X.I ?_|fail)
  refine WL.step (o_loadS (by rfl) hb1 (by rfl) ?_)
  refine WL.call (IsTableau_any hT) ?_
  rintro _ w3 ⟨rfl, hc3⟩
  have hz3 := hc3.size
  have hbl13 : Below w.heap.size w w3 := hbl12.trans (hc3.below (by omega) (by omega))
  replace hb1 := hb1.chg0 hc3
  replace hb2 := hb2.chg0 hc3
  replace hT := hT.chg hc3 (by omega)
  replace hT' := hT'.chg hc3 (by omega)
  unfold stageOrder
  repeat' (first|refine X.O ?_|refine X.A ?_|refine X.B ?_|refine X.C ?_|refine X.D ?_|refine X.E ?_|refine X.F ?_|refine X.G ?_|refine X.H ?_|refine X.I ?_|fail)
  first | refine WL.gsplitD (by rfl) (by rfl) (by rfl) (fun _ => ?_) (fun _ => ?_) | refine WL.gsplitND (by rfl) (by rfl) (by rfl) (fun _ => ?_) (fun _ => ?_) | refine WL.gsplitN (by rfl) (by rfl) (by rfl) (fun _ => ?_) (fun _ => ?_) | refine WL.gsplit (by rfl) (by rfl) (by rfl) (fun _ => ?_) (fun _ => ?_) | fail
  · rename_i hbad
    repeat' (first|refine X.O ?_|refine X.A ?_|refine X.B ?_|refine X.C ?_|refine X.D ?_|refine X.E ?_|refine X.F ?_|refine X.G ?_|refine X.H ?_|refine X.I ?_|fail)
    refine ⟨_, ret2 rfl (by rfl) (by rfl), ?_⟩
    rw [if_neg (fun h => by rw [hbad] at h; cases h.1)]
    exact ResI.none w w3 hbl13 1
  rename_i hok1
  repeat' (first|refine X.O ?_|refine X.A ?_|refine X.B ?_|refine X.C ?_|refine X.D ?_|refine X.E ?_|refine X.F ?_|refine X.G ?_|refine X.H ?_|refine X.I ?_|fail)
  refine WL.step (o_loadS (by rfl) hb2 (by rfl) ?_)
  refine WL.call (IsTableau_any hT') ?_
  rintro _ w4 ⟨rfl, hc4⟩
  have hz4 := hc4.size
  have hbl14 : Below w.heap.size w w4 := hbl13.trans (hc4.below (by omega) (by omega))
  replace hb1 := hb1.chg0 hc4
  replace hb2 := hb2.chg0 hc4
  replace hT := hT.chg hc4 (by omega)
  replace hT' := hT'.chg hc4 (by omega)
  repeat' (first|refine X.O ?_|refine X.A ?_|refine X.B ?_|refine X.C ?_|refine X.D ?_|refine X.E ?_|refine X.F ?_|refine X.G ?_|refine X.H ?_|refine X.I ?_|fail)
  first|refine X.J (fun _ => ?_) (fun _ => ?_)|refine X.L (fun _ => ?_) (fun _ => ?_)|refine X.M (fun _ => ?_) (fun _ => ?_)|refine X.R (fun _ => ?_) (fun _ => ?_)|fail
  · rename_i hbad
    repeat' (first|refine X.O ?_|refine X.A ?_|refine X.B ?_|refine X.C ?_|refine X.D ?_|refine X.E ?_|refine X.F ?_|refine X.G ?_|refine X.H ?_|refine X.I ?_|fail)
    refine ⟨_, ret2 rfl (by rfl) (by rfl), ?_⟩
    rw [if_neg (fun h => by rw [hbad] at h; cases h.2)]
    exact ResI.none w w4 hbl14 1
  rename_i hok2
  rw [if_pos ⟨hok1, hok2⟩]
  have hx := isTab_iff hok1
  have hy := isTab_iff hok2
  have hp := hx.pos
  repeat' (first|refine X.O ?_|refine X.A ?_|refine X.B ?_|refine X.C ?_|refine X.D ?_|refine X.E ?_|refine X.F ?_|refine X.G ?_|refine X.H ?_|refine X.I ?_|fail)
  refine WP.drawn (fun w' => Chg 0 0 w4 w') [(0, true), (2, true), (1, false), (3, false), (4, true)] (by kernel_rfl) mixed ?_
  intro w5 hs5
  have hc5 : Chg 0 0 w4 w5 := Chg.of_still hs5
  refine WS.q rfl (q_loadS (by rfl) (fun w' h => hb1.chg0 h) (by rfl)) hc5 ?_
  refine WS.q rfl (q_loadS (by rfl) (fun w' h => hb2.chg0 h) (by rfl)) hc5 ?_
  refine WS.call rfl (stages_at (hT.chg hc5 (by omega))) ?_
  rintro _ w6 ⟨rfl, hc6⟩
  have hc46 := hc5.trans hc6
  refine ⟨hc46, ?_⟩
  refine WS.call rfl (stages_at (hT'.chg hc46 (by omega))) ?_
  rintro _ w7 ⟨rfl, hc7⟩
  have hc47 := hc46.trans hc7
  refine ⟨hc47, ?_⟩
  have hz7 := hc47.size
  have hbl17 : Below w.heap.size w w7 := hbl14.trans (hc47.below (by omega) (by omega))
  replace hb1 := hb1.chg0 hc47
  replace hb2 := hb2.chg0 hc47
  replace hT := hT.chg hc47 (by omega)
  replace hT' := hT'.chg hc47 (by omega)
  repeat' (first|refine X.U rfl ?_|refine X.V rfl ?_|refine X.W rfl ?_|refine X.Y rfl ?_|refine X.Z rfl ?_|refine WS.nil ?_|fail)
  repeat' (first|refine X.O ?_|refine X.A ?_|refine X.B ?_|refine X.C ?_|refine X.D ?_|refine X.E ?_|refine X.F ?_|refine X.G ?_|refine X.H ?_|refine X.I ?_|fail)
  first|refine X.J (fun _ => ?_) (fun _ => ?_)|refine X.L (fun _ => ?_) (fun _ => ?_)|refine X.M (fun _ => ?_) (fun _ => ?_)|refine X.R (fun _ => ?_) (fun _ => ?_)|fail
  · rename_i hne
    repeat' (first|refine X.O ?_|refine X.A ?_|refine X.B ?_|refine X.C ?_|refine X.D ?_|refine X.E ?_|refine X.F ?_|refine X.G ?_|refine X.H ?_|refine X.I ?_|fail)
    refine ⟨_, ret2 rfl (by rfl) (by rfl), ?_⟩
    rw [if_neg (by omega)]
    exact ResI.none w w7 hbl17 4
  rename_i heq
  have hxy : x.2.length = y.2.length := by omega
  rw [if_pos hxy]
  repeat' (first|refine X.O ?_|refine X.A ?_|refine X.B ?_|refine X.C ?_|refine X.D ?_|refine X.E ?_|refine X.F ?_|refine X.G ?_|refine X.H ?_|refine X.I ?_|fail)
  refine WL.step (o_loadS (by rfl) hb1 (by rfl) ?_)
  refine WL.step (o_loadS (by rfl) hb2 (by rfl) ?_)
  refine WL.call (growOrder_any (order := []) x.2.length hT hT' hx hy hxy (Own.nil w7 w7.heap.size _) (Nat.le_refl _) (fun o ho => by simp at ho) (by simp)) ?_
  rintro r w8 ⟨hbl8, hfd⟩
  have hbl18 : Below w.heap.size w w8 := hbl17.trans (Below.mono hbl8 hbl17.size)
  repeat' (first|refine X.O ?_|refine X.A ?_|refine X.B ?_|refine X.C ?_|refine X.D ?_|refine X.E ?_|refine X.F ?_|refine X.G ?_|refine X.H ?_|refine X.I ?_|fail)
  cases hg : findG x y x.2.length [] with
  | none =>
    rw [hg] at hfd
    unfold Found at hfd
    subst hfd
    refine WL.step (o_eqNil (by rfl) (by rfl) ?_)
    repeat' (first|refine X.O ?_|refine X.A ?_|refine X.B ?_|refine X.C ?_|refine X.D ?_|refine X.E ?_|refine X.F ?_|refine X.G ?_|refine X.H ?_|refine X.I ?_|fail)
    refine ⟨_, ret2 rfl (by rfl) (by rfl), ?_⟩
    exact ResI.none w w8 hbl18 4
  | some l =>
    rw [hg] at hfd
    have hll : l ≠ [] := fun e => by
      have := findG_len hg
      simp only [e, List.length_nil] at this
      omega
    obtain ⟨ar, cr, hvr, _, _, hnil⟩ := Own.shape (us := Ints l) hfd
    subst hvr
    cases ar with
    | none => exact absurd (hnil rfl).2 (fun e => hll (by simpa [Ints] using e))
    | some ad =>
      refine WL.step (o_eqNil (by rfl) (by rfl) ?_)
      repeat' (first|refine X.O ?_|refine X.A ?_|refine X.B ?_|refine X.C ?_|refine X.D ?_|refine X.E ?_|refine X.F ?_|refine X.G ?_|refine X.H ?_|refine X.I ?_|fail)
      refine ⟨_, ret2 rfl (by rfl) (by rfl), ?_⟩
      exact ⟨_, rfl, Own.lower (us := Ints l) hfd hbl17.size, hbl18⟩
end Go.Proofs
