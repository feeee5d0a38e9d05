/- A tableau without the stages that are not used: the program's way; the code of both sides. -/
import Derived.Test.YthepgmajeljdhaaGreatA40
import Derived.Test.YthepgmajeljdhaaGreatA42
import Derived.Test.YthepgmajeljdhaaGreatH11
import Derived.Test.YthepgmajeljdhaaGreatA21
namespace Go.Rk
open Go.Fw Go.Proofs
/-- The stage k behind i rounds of the inner loop, the program's way. -/
def gI (x : TabD) (u : List Bool) (k i : Nat) : Bool := if i = 0 then u[k]?.getD false else hitI x u k i
theorem gI_end {x : TabD} {u : List Bool} {k : Nat} (h : 1 ≤ x.2.length) : gI x u k x.2.length = hitK x u k := by unfold gI; rw [if_neg (by omega), hitI_end]
theorem set_same {u : List Bool} {k : Nat} : u.set k (u[k]?.getD false) = u := by
  by_cases hk : k < u.length
  · rw [List.getElem?_eq_getElem hk, Option.getD_some, List.set_getElem_self]
  · rw [List.set_eq_of_length_le (by omega)]
theorem gI_succ (x : TabD) (u : List Bool) {k i : Nat} (hk : k < u.length) : gI x u k (i + 1) = (gI x u k i || (decide (x.2[k]?.getD 0 ≠ 0) || (((u.set k (gI x u k i))[i]?.getD false) && decide (at2 x.1 i k ≠ 0)))) := by
  have e1 : gI x u k (i + 1) = hitI x u k (i + 1) := by unfold gI; rw [if_neg (by omega)]
  rw [e1, hitI_succ x u hk]
  by_cases h0 : i = 0
  · subst h0
    have e2 : gI x u k 0 = u[k]?.getD false := by unfold gI; rw [if_pos rfl]
    rw [e2, hitI_zero, set_same]
    by_cases hk0 : k = 0
    · subst hk0
      rw [List.getElem?_set_self hk, Option.getD_some]
      cases u[0]?.getD false <;> cases decide (x.2[0]?.getD 0 ≠ 0) <;> cases decide (at2 x.1 0 0 ≠ 0) <;> rfl
    · rw [List.getElem?_set_ne hk0, Bool.or_assoc]
  · have e2 : gI x u k i = hitI x u k i := by unfold gI; rw [if_neg h0]
    rw [e2]
    have h2 : hitI x u k i = (decide (x.2[k]?.getD 0 ≠ 0) || hitI x u k i) := by
      unfold hitI
      cases u[k]?.getD false <;> cases decide (x.2[k]?.getD 0 ≠ 0) <;> rfl
    generalize hitI x u k i = c at h2 ⊢
    cases c <;> cases hd : decide (x.2[k]?.getD 0 ≠ 0) <;> simp_all
theorem gI_mono (x : TabD) (u : List Bool) {k i : Nat} (h : u[k]?.getD false = true) : gI x u k i = true := by
  unfold gI
  split
  · exact h
  · unfold hitI; rw [h]; rfl
theorem usedO_filter (u : List Bool) : ((firstT u.length).filter fun y => !(!(u[y.toNat]?.getD false))) = usedO u := by
  unfold firstT usedO
  rw [List.filter_map]
  congr 1
  apply List.filter_congr
  intro i _
  simp
end Go.Rk
namespace Go.Proofs
open Go Go.Fw Go.RowKit Go.Rk
theorem dropped1_any {lo hi b : Nat} {w : World} {vu : Value} {u : List Bool} {tt : TypeId} (hb : Blk w b [vu] tt) (hu : SL RB lo hi w vu u) (k : Nat) (hk : k < u.length) :
    Does Tryz.prog 80 [.int .i64 (k : Nat), .pointer (some ⟨b, 0, none⟩)] w fun r w' => r = .bool (!(u[k]?.getD false)) ∧ Still w w' := by
  refine Does.enter Tryz.func80 Tryz.ntmps80 rfl (by rfl) ?_
  repeat' (first|refine X.O ?_|refine X.A ?_|refine X.B ?_|refine X.C ?_|refine X.D ?_|refine X.E ?_|refine X.F ?_|refine X.G ?_|refine X.H ?_|refine X.I ?_|fail)
  refine WL.step (o_load (by rfl) (hb.cell (j := 0) rfl) ?_)
  repeat' (first|refine X.O ?_|refine X.A ?_|refine X.B ?_|refine X.C ?_|refine X.D ?_|refine X.E ?_|refine X.F ?_|refine X.G ?_|refine X.H ?_|refine X.I ?_|fail)
  refine WL.ixload (j := k) hu (List.getElem?_eq_getElem hk) ?_
  rintro p1 _ rfl
  repeat' (first|refine X.O ?_|refine X.A ?_|refine X.B ?_|refine X.C ?_|refine X.D ?_|refine X.E ?_|refine X.F ?_|refine X.G ?_|refine X.H ?_|refine X.I ?_|fail)
  refine ⟨_, ret1 rfl (by rfl), ?_⟩
  rw [List.getElem?_eq_getElem hk]
  exact ⟨rfl, Still.refl _⟩
set_option maxHeartbeats 4000000 in
theorem dropped_any {lo hi : Nat} {w : World} {v : Value} {x : TabD} (h : IT lo hi w v x) (hx : Tab x) :
    Does Tryz.prog 39 [v] w fun r w' => OwT 25 2 w.heap.size w'.heap.size w' r (dropL x) ∧ Chg 0 0 w w' := by
  have hz := h.hi_le
  obtain ⟨va, vb, rfl, hA, hB⟩ := h
  obtain ⟨aa, ca, hva⟩ := hA.shape
  subst hva
  have hT : IT lo hi w (.agg #[.slice aa x.1.length ca, vb]) x := ⟨_, _, rfl, hA, hB⟩
  have hm := hx.le8
  have hp := hx.pos
  have hsq := hx.sq
  refine Does.enter Tryz.func39 Tryz.ntmps39 rfl (by rfl) ?_
  repeat' (first|refine X.O ?_|refine X.A ?_|refine X.B ?_|refine X.C ?_|refine X.D ?_|refine X.E ?_|refine X.F ?_|refine X.G ?_|refine X.H ?_|refine X.I ?_|fail)
  refine WL.step (o_box (by rfl) ?_)
  intro w1 hb1 hbl1 hz1
  refine WL.step (o_alloc ?_)
  intro w2 hb2 hbl2 hz2
  have hbl12 : Below w.heap.size w w2 := hbl1.trans (Below.mono hbl2 (by omega))
  have hb12 := hb1.below hbl2 (by omega)
  have hT2 := hT.below hbl12 hz
  repeat' (first|refine X.O ?_|refine X.A ?_|refine X.B ?_|refine X.C ?_|refine X.D ?_|refine X.E ?_|refine X.F ?_|refine X.G ?_|refine X.H ?_|refine X.I ?_|fail)
  refine WL.step (o_loadS (by rfl) hb12 (by rfl) ?_)
  refine WL.call (stages_at hT2) ?_
  rintro _ w3 ⟨rfl, hc3⟩
  have hz3 := hc3.size
  refine WL.step (o_make (n := x.2.length) (by rfl) (by rfl) (by omega) (by unfold maxLen; omega) ?_)
  intro v4 w4 hown4 hbl4 hz4
  have e0 : List.replicate x.2.length (Value.bool false) = Bools (List.replicate x.2.length false) := by simp [Bools]
  rw [e0] at hown4
  obtain ⟨au, cu, hvu⟩ := hown4.isB.shape
  rw [List.length_replicate] at hvu
  subst hvu
  refine WL.step (o_alloc ?_)
  intro w5 hb5 hbl5 hz5
  refine WL.step (o_store (by rfl) (by rfl) (hb5.cell (j := 0) rfl) (hb5.free 0) ?_)
  obtain ⟨w6, hw6⟩ : ∃ w6, w5.setCell ⟨w4.heap.size, 0, none⟩ (.slice au x.2.length cu) = w6 := ⟨_, rfl⟩
  have hb6 := hb5.set 0 (.slice au x.2.length cu)
  have hbut6 := But.setCell w5 w4.heap.size 0 (.slice au x.2.length cu)
  rw [hw6] at hb6 hbut6 ⊢
  have hb6 : Blk w6 w4.heap.size [.slice au x.2.length cu] 86 := hb6
  have hz6 := hbut6.size
  have hbl3 : Below w.heap.size w w3 := hbl12.trans (hc3.below (by omega) (by omega))
  have hbl36 : Below w3.heap.size w3 w6 := (hbl4.trans (Below.mono hbl5 (by omega))).trans (hbut6.below (by omega))
  have hb16 := ((hb12.chg0 hc3).below hbl36 (by omega))
  have hb26 := ((hb2.chg0 hc3).below hbl36 (by omega))
  have hbl6 : Below w.heap.size w w6 := hbl3.trans (Below.mono hbl36 (by omega))
  have hA6 := hA.below IS.stable hbl6 hz
  have hB6 := hB.below RI.stable hbl6 hz
  have hown6 : Own w3.heap.size 4 w6 (.slice au x.2.length cu) (Bools (List.replicate x.2.length false)) := (hown4.below hbl5 (Nat.le_refl _)).keep fun k hk => hbut6.block k (by have := (hown4.block k hk).2; omega)
  have hublk : ∀ k, (Value.slice au x.2.length cu).ownBlock = some k → w3.heap.size ≤ k ∧ k < w4.heap.size := fun k hk => hown4.block k hk
  repeat' (first|refine X.O ?_|refine X.A ?_|refine X.B ?_|refine X.C ?_|refine X.D ?_|refine X.E ?_|refine X.F ?_|refine X.G ?_|refine X.H ?_|refine X.I ?_|fail)
  refine WP.loop (fun (s : Bool × List Bool × Nat) => [(1, .pointer (some ⟨w.heap.size, 0, none⟩)), (2, .pointer (some ⟨w1.heap.size, 0, none⟩)), (3, .pointer (some ⟨w4.heap.size, 0, none⟩)), (4, .bool s.1)])
    (fun s w7 => s.2.1.length = x.2.length ∧ (s.1 = true → s.2.2 ≤ cntB x.2.length s.2.1 ∧ usedL x = itP x s.2.1 (x.2.length + 1 - s.2.2)) ∧ (s.1 = false → usedL x = s.2.1) ∧ Own w3.heap.size 4 w7 (.slice au x.2.length cu) (Bools s.2.1) ∧ Chg w3.heap.size w4.heap.size w6 w7 ∧ w7.heap.size = w6.heap.size)
    (fun s => if s.1 then x.2.length + 1 - s.2.2 else 0) (true, List.replicate x.2.length false, 0) ⟨rfl, rfl, rfl, rfl, trivial⟩ ⟨by simp, fun _ => ⟨by dsimp only; omega, rfl⟩, fun h => (by cases h), hown6, Chg.refl _ _ _, rfl⟩ ?_
  rintro ⟨ch, u, t⟩ w7 ⟨hul, hch, hnc, hown7, hc7, hz7⟩
  dsimp only at hul hch hnc hown7 ⊢
  have hb17 := hb16.chg hc7 (by omega)
  have hb37 := hb6.chg hc7 (by omega)
  have hA7 := ISS.chg hA6 hc7 (by omega)
  have hB7 := RI.chg hB6 hc7 (by omega)
  repeat' (first|refine X.O ?_|refine X.A ?_|refine X.B ?_|refine X.C ?_|refine X.D ?_|refine X.E ?_|refine X.F ?_|refine X.G ?_|refine X.H ?_|refine X.I ?_|fail)
  refine WP.cond (by rfl) (fun hcht => ?_) (fun hchf => ?_)
  · subst hcht
    obtain ⟨htc, hus⟩ := hch rfl
    have hcb := cntB_le x.2.length u
    rw [show x.2.length + 1 - t = (x.2.length - t) + 1 from by omega, itP] at hus
    have hpl : passL x u = passGo x (x.2.length - 0) 0 u := by unfold passL; rw [hul]; rfl
    repeat' (first|refine X.O ?_|refine X.A ?_|refine X.B ?_|refine X.C ?_|refine X.D ?_|refine X.E ?_|refine X.F ?_|refine X.G ?_|refine X.H ?_|refine X.I ?_|fail)
    refine WL.step (o_load (by rfl) (hb37.cell (j := 0) rfl) ?_)
    repeat' (first|refine X.O ?_|refine X.A ?_|refine X.B ?_|refine X.C ?_|refine X.D ?_|refine X.E ?_|refine X.F ?_|refine X.G ?_|refine X.H ?_|refine X.I ?_|fail)
    refine WP.loop (fun (s : Nat × Bool × List Bool) => [(1, .pointer (some ⟨w.heap.size, 0, none⟩)), (2, .pointer (some ⟨w1.heap.size, 0, none⟩)), (3, .pointer (some ⟨w4.heap.size, 0, none⟩)), (4, .bool s.2.1), (14, .int .i64 (x.2.length : Nat)), (15, .int .i64 (s.1 : Nat))])
      (fun s w8 => s.1 ≤ x.2.length ∧ s.2.2.length = x.2.length ∧ passL x u = passGo x (x.2.length - s.1) s.1 s.2.2 ∧ Le u s.2.2 ∧ (s.2.1 = true → s.2.2 ≠ u) ∧ (s.2.1 = false → s.2.2 = u) ∧ Own w3.heap.size 4 w8 (.slice au x.2.length cu) (Bools s.2.2) ∧ Chg w3.heap.size w4.heap.size w6 w8 ∧ w8.heap.size = w6.heap.size)
      (fun s => x.2.length - s.1) (0, false, u) ⟨rfl, rfl, rfl, rfl, rfl, rfl, trivial⟩ ⟨by dsimp only; omega, hul, hpl, Le.refl _, fun h => (by cases h), fun _ => rfl, hown7, hc7, hz7⟩ ?_
    rintro ⟨k, c1, u1⟩ w8 ⟨hk, hul1, hps, hle1, hc1t, hc1f, hown8, hc8, hz8⟩
    dsimp only at hk hul1 hps hle1 hc1t hc1f hown8 ⊢
    have hb18 := hb16.chg hc8 (by omega)
    repeat' (first|refine X.O ?_|refine X.A ?_|refine X.B ?_|refine X.C ?_|refine X.D ?_|refine X.E ?_|refine X.F ?_|refine X.G ?_|refine X.H ?_|refine X.I ?_|fail)
    first|refine X.J (fun _ => ?_) (fun _ => ?_)|refine X.L (fun _ => ?_) (fun _ => ?_)|refine X.M (fun _ => ?_) (fun _ => ?_)|refine X.R (fun _ => ?_) (fun _ => ?_)|fail
    · rename_i hltk
      have hlk : k < x.2.length := by omega
      have hlku : k < u1.length := by omega
      rw [show x.2.length - k = (x.2.length - (k + 1)) + 1 from by omega, passGo] at hps
      repeat' (first|refine X.O ?_|refine X.A ?_|refine X.B ?_|refine X.C ?_|refine X.D ?_|refine X.E ?_|refine X.F ?_|refine X.G ?_|refine X.H ?_|refine X.I ?_|fail)
      refine WL.fld hb18 ?_
      intro p1
      repeat' (first|refine X.O ?_|refine X.A ?_|refine X.B ?_|refine X.C ?_|refine X.D ?_|refine X.E ?_|refine X.F ?_|refine X.G ?_|refine X.H ?_|refine X.I ?_|fail)
      refine WP.loop (fun (s : Nat × Bool) => [(1, .pointer (some ⟨w.heap.size, 0, none⟩)), (2, .pointer (some ⟨w1.heap.size, 0, none⟩)), (3, .pointer (some ⟨w4.heap.size, 0, none⟩)), (4, .bool s.2), (5, .int .i64 (k : Nat)), (14, .int .i64 (x.2.length : Nat)), (15, .int .i64 (k : Nat)), (19, .slice aa x.1.length ca), (20, .int .i64 (x.1.length : Nat)), (21, .int .i64 (s.1 : Nat))])
        (fun s w9 => s.1 ≤ x.2.length ∧ (s.2 = true → u1.set k (gI x u1 k s.1) ≠ u) ∧ (s.2 = false → u1.set k (gI x u1 k s.1) = u) ∧ Own w3.heap.size 4 w9 (.slice au x.2.length cu) (Bools (u1.set k (gI x u1 k s.1))) ∧ Chg w3.heap.size w4.heap.size w6 w9 ∧ w9.heap.size = w6.heap.size)
        (fun s => x.2.length - s.1) (0, c1) ⟨rfl, rfl, rfl, rfl, rfl, rfl, rfl, rfl, rfl, rfl, trivial⟩ ⟨by dsimp only; omega, ?_, ?_, ?_, hc8, hz8⟩ ?_
      · show c1 = true → u1.set k (gI x u1 k 0) ≠ u
        unfold gI; rw [if_pos rfl, set_same]; exact hc1t
      · show c1 = false → u1.set k (gI x u1 k 0) = u
        unfold gI; rw [if_pos rfl, set_same]; exact hc1f
      · show Own w3.heap.size 4 w8 (.slice au x.2.length cu) (Bools (u1.set k (gI x u1 k 0)))
        unfold gI; rw [if_pos rfl, set_same]; exact hown8
      rintro ⟨i, c2⟩ w9 ⟨hi1, hc2t, hc2f, hown9, hc9, hz9⟩
      dsimp only at hi1 hc2t hc2f hown9 ⊢
      have hb19 := hb16.chg hc9 (by omega)
      have hb39 := hb6.chg hc9 (by omega)
      have hA9 := ISS.chg hA6 hc9 (by omega)
      have hB9 := RI.chg hB6 hc9 (by omega)
      repeat' (first|refine X.O ?_|refine X.A ?_|refine X.B ?_|refine X.C ?_|refine X.D ?_|refine X.E ?_|refine X.F ?_|refine X.G ?_|refine X.H ?_|refine X.I ?_|fail)
      first|refine X.J (fun _ => ?_) (fun _ => ?_)|refine X.L (fun _ => ?_) (fun _ => ?_)|refine X.M (fun _ => ?_) (fun _ => ?_)|refine X.R (fun _ => ?_) (fun _ => ?_)|fail
      · rename_i hlti
        have hli : i < x.2.length := by omega
        have hlia : i < x.1.length := by omega
        have hrow := hx.row _ (List.getElem_mem hlia)
        have hlr : k < x.1[i].length := by omega
        have hsc := gI_succ x u1 (i := i) hlku
        have hmono : u1[k]?.getD false = true → gI x u1 k i = true := gI_mono x u1
        obtain ⟨cur, hcur⟩ : ∃ cur, gI x u1 k i = cur := ⟨_, rfl⟩
        rw [hcur] at hown9 hsc hc2t hc2f hmono
        obtain ⟨ub, hub⟩ : ∃ ub, u1.set k cur = ub := ⟨_, rfl⟩
        have hubl : ub.length = x.2.length := by rw [← hub, List.length_set]; exact hul1
        have hubk : ub[k]'(by omega) = cur := by subst hub; rw [List.getElem_set_self]
        have hleb : Le u ub := by rw [← hub]; exact hle1.trans (le_set hmono)
        rw [hub] at hown9 hsc hc2t hc2f
        rw [List.getElem?_eq_getElem (show i < ub.length by omega), Option.getD_some, at2_eq hlia hlr, List.getElem?_eq_getElem hlk, Option.getD_some] at hsc
        have hset : u1.set k (gI x u1 k (i + 1)) = ub.set k (gI x u1 k (i + 1)) := by rw [← hub, List.set_set]
        have hUB := hown9.isB
        -- a round that leaves all as it is
        have hstay : gI x u1 k (i + 1) = cur → u1.set k (gI x u1 k (i + 1)) = ub := fun e => by rw [e]; exact hub
        repeat' (first|refine X.O ?_|refine X.A ?_|refine X.B ?_|refine X.C ?_|refine X.D ?_|refine X.E ?_|refine X.F ?_|refine X.G ?_|refine X.H ?_|refine X.I ?_|fail)
        refine WL.ixload hA9 (List.getElem?_eq_getElem hlia) ?_
        intro p2 ur hur
        repeat' (first|refine X.O ?_|refine X.A ?_|refine X.B ?_|refine X.C ?_|refine X.D ?_|refine X.E ?_|refine X.F ?_|refine X.G ?_|refine X.H ?_|refine X.I ?_|fail)
        refine WL.step (o_load (by rfl) (hb39.cell (j := 0) rfl) ?_)
        repeat' (first|refine X.O ?_|refine X.A ?_|refine X.B ?_|refine X.C ?_|refine X.D ?_|refine X.E ?_|refine X.F ?_|refine X.G ?_|refine X.H ?_|refine X.I ?_|fail)
        refine WL.ixload (j := k) hUB (List.getElem?_eq_getElem (by omega)) ?_
        rintro p3 _ rfl
        rw [hubk]
        repeat' (first|refine X.O ?_|refine X.A ?_|refine X.B ?_|refine X.C ?_|refine X.D ?_|refine X.E ?_|refine X.F ?_|refine X.G ?_|refine X.H ?_|refine X.I ?_|fail)
        refine WL.gsplitN (by rfl) (by rfl) (by rfl) (fun hcu => ?_) (fun hcu => ?_)
        · subst hcu
          rw [Bool.false_or] at hsc
          have hfire : gI x u1 k (i + 1) = true → ∀ (l' : Fr), True := fun _ _ => trivial
          repeat' (first|refine X.O ?_|refine X.A ?_|refine X.B ?_|refine X.C ?_|refine X.D ?_|refine X.E ?_|refine X.F ?_|refine X.G ?_|refine X.H ?_|refine X.I ?_|fail)
          refine WL.fld hb19 ?_
          intro p4
          repeat' (first|refine X.O ?_|refine X.A ?_|refine X.B ?_|refine X.C ?_|refine X.D ?_|refine X.E ?_|refine X.F ?_|refine X.G ?_|refine X.H ?_|refine X.I ?_|fail)
          refine WL.ixload hB9 (List.getElem?_eq_getElem hlk) ?_
          rintro p5 _ rfl
          repeat' (first|refine X.O ?_|refine X.A ?_|refine X.B ?_|refine X.C ?_|refine X.D ?_|refine X.E ?_|refine X.F ?_|refine X.G ?_|refine X.H ?_|refine X.I ?_|fail)
          refine WL.gsplitD (by rfl) (by rfl) (by rfl) (fun hb0 => ?_) (fun hb0 => ?_)
          · rw [decide_eq_true hb0, Bool.true_or] at hsc
            repeat' (first|refine X.O ?_|refine X.A ?_|refine X.B ?_|refine X.C ?_|refine X.D ?_|refine X.E ?_|refine X.F ?_|refine X.G ?_|refine X.H ?_|refine X.I ?_|fail)
            refine WL.step (o_load (by rfl) (hb39.cell (j := 0) rfl) ?_)
            repeat' (first|refine X.O ?_|refine X.A ?_|refine X.B ?_|refine X.C ?_|refine X.D ?_|refine X.E ?_|refine X.F ?_|refine X.G ?_|refine X.H ?_|refine X.I ?_|fail)
            refine WL.ixstore (j := k) hown9 (by simp [Bools]; omega) ?_
            intro p6 w10 hown10 hbl10 hz10 hk10
            rw [Bools_set, ← hsc, ← hset] at hown10
            repeat' (first|refine X.O ?_|refine X.A ?_|refine X.B ?_|refine X.C ?_|refine X.D ?_|refine X.E ?_|refine X.F ?_|refine X.G ?_|refine X.H ?_|refine X.I ?_|fail)
            have hc10 : Chg w3.heap.size w4.heap.size w6 w10 := ⟨by rw [hbl10.os, hc9.os], by rw [hbl10.tape, hc9.tape], by rw [hbl10.output, hc9.output], by omega, fun m hm hd => by rw [hk10 m (fun e => by have := hublk m e; omega), hc9.block m hm hd]⟩
            refine ⟨(i + 1, true), ⟨rfl, rfl, rfl, rfl, rfl, rfl, rfl, rfl, rfl, (by first|rfl|exact X.T (by omega)), trivial⟩, ⟨by dsimp only; omega, fun _ e => ?_, fun e => (by cases e), hown10, hc10, by omega⟩, by dsimp only; omega⟩
            dsimp only at e
            rw [hset, hsc] at e
            have h1 : u[k]?.getD false = true := by rw [← e, List.getElem?_set_self (by omega)]; rfl
            have h2 := hleb.2 k h1
            rw [List.getElem?_eq_getElem (by omega), hubk] at h2
            cases h2
          · rw [decide_eq_false hb0, Bool.false_or] at hsc
            repeat' (first|refine X.O ?_|refine X.A ?_|refine X.B ?_|refine X.C ?_|refine X.D ?_|refine X.E ?_|refine X.F ?_|refine X.G ?_|refine X.H ?_|refine X.I ?_|fail)
            refine WL.step (o_load (by rfl) (hb39.cell (j := 0) rfl) ?_)
            repeat' (first|refine X.O ?_|refine X.A ?_|refine X.B ?_|refine X.C ?_|refine X.D ?_|refine X.E ?_|refine X.F ?_|refine X.G ?_|refine X.H ?_|refine X.I ?_|fail)
            refine WL.ixload (j := i) hUB (List.getElem?_eq_getElem (by omega)) ?_
            rintro p6 _ rfl
            repeat' (first|refine X.O ?_|refine X.A ?_|refine X.B ?_|refine X.C ?_|refine X.D ?_|refine X.E ?_|refine X.F ?_|refine X.G ?_|refine X.H ?_|refine X.I ?_|fail)
            refine WL.gsplit (by rfl) (by rfl) (by rfl) (fun hv => ?_) (fun hv => ?_)
            · rw [hv, Bool.true_and] at hsc
              repeat' (first|refine X.O ?_|refine X.A ?_|refine X.B ?_|refine X.C ?_|refine X.D ?_|refine X.E ?_|refine X.F ?_|refine X.G ?_|refine X.H ?_|refine X.I ?_|fail)
              refine WL.ixload (j := k) hur (List.getElem?_eq_getElem hlr) ?_
              rintro p7 _ rfl
              repeat' (first|refine X.O ?_|refine X.A ?_|refine X.B ?_|refine X.C ?_|refine X.D ?_|refine X.E ?_|refine X.F ?_|refine X.G ?_|refine X.H ?_|refine X.I ?_|fail)
              refine WP.condD (by rfl) (fun ha0 => ?_) (fun ha0 => ?_)
              · rw [decide_eq_true ha0] at hsc
                repeat' (first|refine X.O ?_|refine X.A ?_|refine X.B ?_|refine X.C ?_|refine X.D ?_|refine X.E ?_|refine X.F ?_|refine X.G ?_|refine X.H ?_|refine X.I ?_|fail)
                refine WL.step (o_load (by rfl) (hb39.cell (j := 0) rfl) ?_)
                repeat' (first|refine X.O ?_|refine X.A ?_|refine X.B ?_|refine X.C ?_|refine X.D ?_|refine X.E ?_|refine X.F ?_|refine X.G ?_|refine X.H ?_|refine X.I ?_|fail)
                refine WL.ixstore (j := k) hown9 (by simp [Bools]; omega) ?_
                intro p8 w10 hown10 hbl10 hz10 hk10
                rw [Bools_set, ← hsc, ← hset] at hown10
                repeat' (first|refine X.O ?_|refine X.A ?_|refine X.B ?_|refine X.C ?_|refine X.D ?_|refine X.E ?_|refine X.F ?_|refine X.G ?_|refine X.H ?_|refine X.I ?_|fail)
                have hc10 : Chg w3.heap.size w4.heap.size w6 w10 := ⟨by rw [hbl10.os, hc9.os], by rw [hbl10.tape, hc9.tape], by rw [hbl10.output, hc9.output], by omega, fun m hm hd => by rw [hk10 m (fun e => by have := hublk m e; omega), hc9.block m hm hd]⟩
                refine ⟨(i + 1, true), ⟨rfl, rfl, rfl, rfl, rfl, rfl, rfl, rfl, rfl, (by first|rfl|exact X.T (by omega)), trivial⟩, ⟨by dsimp only; omega, fun _ e => ?_, fun e => (by cases e), hown10, hc10, by omega⟩, by dsimp only; omega⟩
                dsimp only at e
                rw [hset, hsc] at e
                have h1 : u[k]?.getD false = true := by rw [← e, List.getElem?_set_self (by omega)]; rfl
                have h2 := hleb.2 k h1
                rw [List.getElem?_eq_getElem (by omega), hubk] at h2
                cases h2
              · rw [decide_eq_false ha0] at hsc
                have e9 := hstay hsc
                repeat' (first|refine X.O ?_|refine X.A ?_|refine X.B ?_|refine X.C ?_|refine X.D ?_|refine X.E ?_|refine X.F ?_|refine X.G ?_|refine X.H ?_|refine X.I ?_|fail)
                exact ⟨(i + 1, c2), ⟨rfl, rfl, rfl, rfl, rfl, rfl, rfl, rfl, rfl, (by first|rfl|exact X.T (by omega)), trivial⟩, ⟨by dsimp only; omega, by rw [e9]; exact hc2t, by rw [e9]; exact hc2f, by rw [e9]; exact hown9, hc9, hz9⟩, by dsimp only; omega⟩
            · rw [hv, Bool.false_and] at hsc
              have e9 := hstay hsc
              repeat' (first|refine X.O ?_|refine X.A ?_|refine X.B ?_|refine X.C ?_|refine X.D ?_|refine X.E ?_|refine X.F ?_|refine X.G ?_|refine X.H ?_|refine X.I ?_|fail)
              exact ⟨(i + 1, c2), ⟨rfl, rfl, rfl, rfl, rfl, rfl, rfl, rfl, rfl, (by first|rfl|exact X.T (by omega)), trivial⟩, ⟨by dsimp only; omega, by rw [e9]; exact hc2t, by rw [e9]; exact hc2f, by rw [e9]; exact hown9, hc9, hz9⟩, by dsimp only; omega⟩
        · subst hcu
          rw [Bool.true_or] at hsc
          have e9 := hstay hsc
          repeat' (first|refine X.O ?_|refine X.A ?_|refine X.B ?_|refine X.C ?_|refine X.D ?_|refine X.E ?_|refine X.F ?_|refine X.G ?_|refine X.H ?_|refine X.I ?_|fail)
          exact ⟨(i + 1, c2), ⟨rfl, rfl, rfl, rfl, rfl, rfl, rfl, rfl, rfl, (by first|rfl|exact X.T (by omega)), trivial⟩, ⟨by dsimp only; omega, by rw [e9]; exact hc2t, by rw [e9]; exact hc2f, by rw [e9]; exact hown9, hc9, hz9⟩, by dsimp only; omega⟩
      · rename_i hgei
        have hie : i = x.2.length := by omega
        rw [hie, gI_end hp] at hown9 hc2t hc2f
        repeat' (first|refine X.O ?_|refine X.A ?_|refine X.B ?_|refine X.C ?_|refine X.D ?_|refine X.E ?_|refine X.F ?_|refine X.G ?_|refine X.H ?_|refine X.I ?_|fail)
        exact ⟨(k + 1, c2, u1.set k (hitK x u1 k)), ⟨rfl, rfl, rfl, rfl, rfl, (by first|rfl|exact X.T (by omega)), trivial⟩, ⟨by dsimp only; omega, by rw [List.length_set]; exact hul1, hps, hle1.trans (le_set fun h => by unfold hitK; rw [h]; rfl), hc2t, hc2f, hown9, hc9, hz9⟩, by dsimp only; omega⟩
    · rename_i hgek
      have hke : k = x.2.length := by omega
      rw [hke, Nat.sub_self, passGo] at hps
      repeat' (first|refine X.O ?_|refine X.A ?_|refine X.B ?_|refine X.C ?_|refine X.D ?_|refine X.E ?_|refine X.F ?_|refine X.G ?_|refine X.H ?_|refine X.I ?_|fail)
      cases c1 with
      | true =>
        have hne := hc1t rfl
        have hlt := cntB_lt hul hle1 hne
        have hcb1 := cntB_le x.2.length u1
        exact ⟨(true, u1, t + 1), ⟨rfl, rfl, rfl, rfl, trivial⟩, ⟨hul1, fun _ => ⟨by dsimp only; omega, by dsimp only; rw [hus, hps]; congr 1; omega⟩, fun h => (by cases h), hown8, hc8, hz8⟩, by dsimp only; simp; omega⟩
      | false =>
        have heq := hc1f rfl
        rw [heq] at hps
        rw [hps, itP_fix hps] at hus
        exact ⟨(false, u1, t), ⟨rfl, rfl, rfl, rfl, trivial⟩, ⟨hul1, fun h => (by cases h), fun _ => by dsimp only; rw [hus, heq], hown8, hc8, hz8⟩, by dsimp only; simp; omega⟩
  · have hus := hnc hchf
    have hT7 : IT lo hi w7 (.agg #[.slice aa x.1.length ca, vb]) x := ⟨_, _, rfl, hA7, hB7⟩
    have hb27 := hb26.chg hc7 (by omega)
    repeat' (first|refine X.O ?_|refine X.A ?_|refine X.B ?_|refine X.C ?_|refine X.D ?_|refine X.E ?_|refine X.F ?_|refine X.G ?_|refine X.H ?_|refine X.I ?_|fail)
    refine WL.step (o_loadS (by rfl) hb17 (by rfl) ?_)
    refine WL.call (allStages_any hT7 (by omega)) ?_
    intro v8 w8 hN8
    have hz8 := hN8.2.size
    have hb38 := hb37.below hN8.2 hb37.lt
    have hU8 := (hown7.below hN8.2 (Nat.le_refl _)).isB
    repeat' (first|refine X.O ?_|refine X.A ?_|refine X.B ?_|refine X.C ?_|refine X.D ?_|refine X.E ?_|refine X.F ?_|refine X.G ?_|refine X.H ?_|refine X.I ?_|fail)
    refine WL.call (DeleteFunc_any (f := 80) (cap := [.pointer (some ⟨w4.heap.size, 0, none⟩)]) (fun y => !(u[y.toNat]?.getD false)) hN8.1 (fun y hy w' hzw hkw => ?_)) ?_
    · obtain ⟨j, hj, rfl⟩ : ∃ j : Nat, j < x.2.length ∧ y = ((j : Nat) : Int) := by
        unfold firstT at hy
        obtain ⟨j, hj, rfl⟩ := List.mem_map.1 hy
        exact ⟨j, List.mem_range.1 hj, rfl⟩
      have hsame : Same 0 w7.heap.size w8 w' := fun m _ hm => hkw m (fun e => by have := (hN8.1.block m e).1; omega)
      have hbw : Blk w' w4.heap.size [.slice au x.2.length cu] 86 := hb38.keep (hsame _ (by omega) hb37.lt)
      have hUw : SL RB 0 w7.heap.size w' (.slice au x.2.length cu) u := by
        have h7 := hown7.isB.wide RB.stable (lo' := 0) (hi' := w7.heap.size) (by omega) (Nat.le_refl _) (Nat.le_refl _)
        exact (h7.below RB.stable hN8.2 (Nat.le_refl _)).same RB.stable hsame (by omega)
      have := dropped1_any hbw hUw j (by omega)
      rw [Int.toNat_natCast]
      exact this
    rintro v9 w9 ⟨hown9, hbl9, hz9, hk9, _⟩
    have hfil : (firstT x.2.length).filter (fun y => !(!(u[y.toNat]?.getD false))) = usedO (usedL x) := by rw [← hul, usedO_filter, hus]
    rw [hfil] at hown9
    have hbl79 : Below w7.heap.size w7 w9 := hN8.2.trans hbl9
    obtain ⟨o, ho⟩ : ∃ o, usedO (usedL x) = o := ⟨_, rfl⟩
    have hol : o.length ≤ x.2.length := by rw [← ho]; have := usedO_len (usedL x); rw [usedL_length] at this; exact this
    have hok : OrdOk x.2.length o := by rw [← ho]; have := usedO_ok (u := usedL x); rw [usedL_length] at this; exact this
    rw [ho] at hown9
    obtain ⟨ao, co, hvo, _⟩ := hown9.shape
    rw [Ints_length] at hvo
    subst hvo
    have hb19 := hb17.below hbl79 hb17.lt
    have hb29 := hb27.below hbl79 hb27.lt
    have hT9 := hT7.below hbl79 (by omega)
    have hO9 : IS w7.heap.size w9.heap.size w9 (.slice ao o.length co) o := (⟨hown9, fun k hk => (hown9.block k hk).2, Nat.le_refl _⟩ : OwI 2 w7.heap.size w9.heap.size w9 _ o).rd
    have hc9 : Chg 0 0 w w9 := ⟨by rw [hbl79.os, hc7.os, hbl6.os], by rw [hbl79.tape, hc7.tape, hbl6.tape], by rw [hbl79.output, hc7.output, hbl6.output], by omega, fun k hk _ => by rw [hbl79.block k (by omega), hc7.block k (by omega) (by omega), hbl6.block k hk]⟩
    have hfin : ∀ (w10 : World) v10 z, OwT 25 2 w9.heap.size w10.heap.size w10 v10 z → Chg 0 0 w9 w10 → z = dropL x → ∀ w11, But w1.heap.size w10 w11 → OwT 25 2 w.heap.size w11.heap.size w11 v10 (dropL x) ∧ Chg 0 0 w w11 := fun w10 v10 z hT10 hc10 hz10 w11 hbut11 => by
      subst hz10
      have hz11 := hbut11.size
      have hz10 := hc10.size
      refine ⟨(hT10.chg hbut11.chg (Or.inr (by omega))).wide (by omega) (by omega) (Nat.le_refl _), ?_⟩
      have hc11 := hbut11.chg
      refine ⟨by rw [hc11.os, hc10.os, hc9.os], by rw [hc11.tape, hc10.tape, hc9.tape], by rw [hc11.output, hc10.output, hc9.output], by omega, fun k hk hd => ?_⟩
      rw [hc11.block k (by omega) (by omega), hc10.block k (by omega) (by omega), hc9.block k hk (by omega)]
    repeat' (first|refine X.O ?_|refine X.A ?_|refine X.B ?_|refine X.C ?_|refine X.D ?_|refine X.E ?_|refine X.F ?_|refine X.G ?_|refine X.H ?_|refine X.I ?_|fail)
    first|refine X.J (fun _ => ?_) (fun _ => ?_)|refine X.L (fun _ => ?_) (fun _ => ?_)|refine X.M (fun _ => ?_) (fun _ => ?_)|refine X.R (fun _ => ?_) (fun _ => ?_)|fail
    · rename_i h0
      have hnil : o = [] := List.eq_nil_of_length_eq_zero (by omega)
      repeat' (first|refine X.O ?_|refine X.A ?_|refine X.B ?_|refine X.C ?_|refine X.D ?_|refine X.E ?_|refine X.F ?_|refine X.G ?_|refine X.H ?_|refine X.I ?_|fail)
      refine WL.call (NeutralTableau_any _) ?_
      rintro v10 w10 ⟨hT10, hc10⟩
      obtain ⟨a1, n1, c1, a2, n2, c2, hv10⟩ := hT10.cells
      subst hv10
      refine WL.step (o_storeS (vs := [.slice a1 n1 c1, .slice a2 n2 c2]) (by rfl) (by rfl) (hb29.chg hc10 (by omega)) (by rfl) (by rfl) two_cells ?_)
      intro w11 hb11 hbut11
      have hr := hfin w10 _ _ hT10 hc10 (by unfold dropL; rw [ho, if_pos hnil]) w11 hbut11
      repeat' (first|refine X.O ?_|refine X.A ?_|refine X.B ?_|refine X.C ?_|refine X.D ?_|refine X.E ?_|refine X.F ?_|refine X.G ?_|refine X.H ?_|refine X.I ?_|fail)
      exact ⟨_, retS rfl (by rfl) hb11 (by rfl), hr⟩
    · rename_i h0
      have hnil : ¬ o = [] := fun e => by subst e; exact h0 (by rfl)
      repeat' (first|refine X.O ?_|refine X.A ?_|refine X.B ?_|refine X.C ?_|refine X.D ?_|refine X.E ?_|refine X.F ?_|refine X.G ?_|refine X.H ?_|refine X.I ?_|fail)
      refine WL.step (o_loadS (by rfl) hb19 (by rfl) ?_)
      repeat' (first|refine X.O ?_|refine X.A ?_|refine X.B ?_|refine X.C ?_|refine X.D ?_|refine X.E ?_|refine X.F ?_|refine X.G ?_|refine X.H ?_|refine X.I ?_|fail)
      refine WL.call (reordered_any hT9 hO9 hx hok (by omega)) ?_
      rintro v10 w10 ⟨hT10, hc10⟩
      obtain ⟨a1, n1, c1, a2, n2, c2, hv10⟩ := hT10.cells
      subst hv10
      refine WL.step (o_storeS (vs := [.slice a1 n1 c1, .slice a2 n2 c2]) (by rfl) (by rfl) (hb29.chg hc10 (by omega)) (by rfl) (by rfl) two_cells ?_)
      intro w11 hb11 hbut11
      have hr := hfin w10 _ _ hT10 hc10 (by unfold dropL; rw [ho, if_neg hnil]) w11 hbut11
      repeat' (first|refine X.O ?_|refine X.A ?_|refine X.B ?_|refine X.C ?_|refine X.D ?_|refine X.E ?_|refine X.F ?_|refine X.G ?_|refine X.H ?_|refine X.I ?_|fail)
      exact ⟨_, retS rfl (by rfl) hb11 (by rfl), hr⟩
end Go.Proofs
