/- A tableau without the stages that are not used: the reference's way. -/
import Derived.Test.YthepgmajeljdhaaGreatT2
import Derived.Test.YthepgmajeljdhaaGreatA39
import Derived.Test.YthepgmajeljdhaaGreatHB
import Derived.Test.YthepgmajeljdhaaGreatPlA
namespace Go.Fw
open Go Go.RowKit
def Bools (us : List Bool) : List Value := us.map Value.bool
theorem Bools_length (us : List Bool) : (Bools us).length = us.length := by simp [Bools]
theorem Bools_set (us : List Bool) (i : Nat) (b : Bool) : (Bools us).set i (.bool b) = Bools (us.set i b) := by simp [Bools, List.map_set]
theorem Own.isB {lo : Nat} {e : TypeId} {w : World} {v : Value} {us : List Bool} (h : Own lo e w v (Bools us)) : SL RB lo w.heap.size w v us :=
  h.toSL (Bools_length us) (Nat.le_refl _) (fun k hk => (h.block k hk).2) (Nat.le_refl _) fun i u x hu hx => by
    unfold Bools at hu
    rw [List.getElem?_map, hx] at hu
    simpa [RB] using hu.symm
end Go.Fw
namespace Go.Rk
open Go.Fw Go.Proofs
/-- The stage k behind i rounds of the inner loop. -/
def hitI (x : TabD) (u : List Bool) (k i : Nat) : Bool := u[k]?.getD false || (decide (x.2[k]?.getD 0 ≠ 0) || (List.range i).any fun j => u[j]?.getD false && decide (at2 x.1 j k ≠ 0))
theorem hitI_zero (x : TabD) (u : List Bool) (k : Nat) : hitI x u k 0 = (u[k]?.getD false || decide (x.2[k]?.getD 0 ≠ 0)) := by unfold hitI; simp
theorem hitI_succ (x : TabD) (u : List Bool) {k i : Nat} (hk : k < u.length) : hitI x u k (i + 1) = (hitI x u k i || (((u.set k (hitI x u k i))[i]?.getD false) && decide (at2 x.1 i k ≠ 0))) := by
  have e : hitI x u k (i + 1) = (hitI x u k i || (u[i]?.getD false && decide (at2 x.1 i k ≠ 0))) := by
    unfold hitI
    rw [List.range_succ, List.any_append]
    simp only [List.any_cons, List.any_nil, Bool.or_false, Bool.or_assoc]
  rw [e]
  by_cases hik : k = i
  · subst hik
    rw [List.getElem?_set_self hk, Option.getD_some]
    cases h0 : u[k]?.getD false with
    | true =>
      have : hitI x u k k = true := by unfold hitI; rw [h0]; rfl
      rw [this]
    | false => cases hitI x u k k <;> simp
  · rw [List.getElem?_set_ne hik]
theorem hitI_end {x : TabD} {u : List Bool} {k : Nat} : hitI x u k x.2.length = hitK x u k := rfl
end Go.Rk
namespace Go.Proofs
open Go Go.Fw Go.RowKit Go.Rk
theorem usedO_succ (u : List Bool) (i : Nat) : (((List.range (i + 1)).filter fun j => u[j]?.getD false).map fun j => ((j : Nat) : Int)) = (((List.range i).filter fun j => u[j]?.getD false).map fun j => ((j : Nat) : Int)) ++ (if u[i]?.getD false = true then [((i : Nat) : Int)] else []) := by
  rw [List.range_succ, List.filter_append, List.map_append]
  congr 1
  cases h : u[i]?.getD false <;> simp [h]
set_option maxHeartbeats 1000000 in
/-- A tableau without the stages that are not used. -/
theorem l10Drop_any {lo hi : Nat} {w : World} {v : Value} {x : TabD} (h : IT lo hi w v x) (hx : Tab x) :
    Does Tryz.prog 92 [v] w fun r w' => OwT 25 2 w.heap.size w'.heap.size w' r (dropL x) ∧ Chg 0 0 w w' := by
  have hz := h.hi_le
  obtain ⟨va, vb, rfl, hA, hB⟩ := h
  obtain ⟨ab, cb, hvb⟩ := hB.shape
  subst hvb
  have hT : IT lo hi w (.agg #[va, .slice ab x.2.length cb]) x := ⟨_, _, rfl, hA, hB⟩
  have hm := hx.le8
  have hsq := hx.sq
  refine Does.enter Tryz.func92 Tryz.ntmps92 rfl (by rfl) ?_
  repeat' (first|refine X.O ?_|refine X.A ?_|refine X.B ?_|refine X.C ?_|refine X.D ?_|refine X.E ?_|refine X.F ?_|refine X.G ?_|refine X.H ?_|refine X.I ?_|fail)
  refine WL.step (o_box (by rfl) ?_)
  intro w1 hb1 hbl1 hz1
  refine WL.step (o_alloc ?_)
  intro w2 hb2 hbl2 hz2
  have hbl12 : Below w.heap.size w w2 := hbl1.trans (Below.mono hbl2 (by omega))
  have hb12 := hb1.below hbl2 (by omega)
  repeat' (first|refine X.O ?_|refine X.A ?_|refine X.B ?_|refine X.C ?_|refine X.D ?_|refine X.E ?_|refine X.F ?_|refine X.G ?_|refine X.H ?_|refine X.I ?_|fail)
  refine WL.fld hb12 ?_
  intro p1
  repeat' (first|refine X.O ?_|refine X.A ?_|refine X.B ?_|refine X.C ?_|refine X.D ?_|refine X.E ?_|refine X.F ?_|refine X.G ?_|refine X.H ?_|refine X.I ?_|fail)
  refine WL.step (o_make (n := x.2.length) (by rfl) (by rfl) (by omega) (by unfold maxLen; omega) ?_)
  intro v3 w3 hown3 hbl3 hz3
  have e0 : List.replicate x.2.length (Value.bool false) = Bools (List.replicate x.2.length false) := by simp [Bools]
  rw [e0] at hown3
  obtain ⟨au, cu, hvu⟩ := hown3.isB.shape
  rw [List.length_replicate] at hvu
  subst hvu
  repeat' (first|refine X.O ?_|refine X.A ?_|refine X.B ?_|refine X.C ?_|refine X.D ?_|refine X.E ?_|refine X.F ?_|refine X.G ?_|refine X.H ?_|refine X.I ?_|fail)
  refine WP.loop (fun (s : Nat × List Bool) => [(1, .pointer (some ⟨w.heap.size, 0, none⟩)), (2, .pointer (some ⟨w1.heap.size, 0, none⟩)), (3, .slice au x.2.length cu), (4, .int .i64 (s.1 : Nat))])
    (fun s w4 => s.1 ≤ x.2.length + 1 ∧ s.2.length = x.2.length ∧ usedL x = itP x s.2 (x.2.length + 1 - s.1) ∧ Own w2.heap.size 4 w4 (.slice au x.2.length cu) (Bools s.2) ∧ Below w2.heap.size w2 w4)
    (fun s => x.2.length + 1 - s.1) (0, List.replicate x.2.length false) ⟨rfl, rfl, rfl, rfl, trivial⟩ ⟨by dsimp only; omega, by simp, rfl, hown3, hbl3⟩ ?_
  rintro ⟨t, u⟩ w4 ⟨ht, hul, hus, hown4, hbl4⟩
  dsimp only at ht hul hus hown4 ⊢
  have hz4 := hbl4.size
  have hb14 := hb12.below hbl4 (by omega)
  repeat' (first|refine X.O ?_|refine X.A ?_|refine X.B ?_|refine X.C ?_|refine X.D ?_|refine X.E ?_|refine X.F ?_|refine X.G ?_|refine X.H ?_|refine X.I ?_|fail)
  refine WL.fld hb14 ?_
  intro p2
  repeat' (first|refine X.O ?_|refine X.A ?_|refine X.B ?_|refine X.C ?_|refine X.D ?_|refine X.E ?_|refine X.F ?_|refine X.G ?_|refine X.H ?_|refine X.I ?_|fail)
  first|refine X.J (fun _ => ?_) (fun _ => ?_)|refine X.L (fun _ => ?_) (fun _ => ?_)|refine X.M (fun _ => ?_) (fun _ => ?_)|refine X.R (fun _ => ?_) (fun _ => ?_)|fail
  · rename_i hle
    rw [show x.2.length + 1 - t = (x.2.length + 1 - (t + 1)) + 1 from by omega, itP] at hus
    have hpl : passL x u = passGo x (x.2.length - 0) 0 u := by unfold passL; rw [hul]; rfl
    repeat' (first|refine X.O ?_|refine X.A ?_|refine X.B ?_|refine X.C ?_|refine X.D ?_|refine X.E ?_|refine X.F ?_|refine X.G ?_|refine X.H ?_|refine X.I ?_|fail)
    refine WP.loop (fun (s : Nat × List Bool) => [(1, .pointer (some ⟨w.heap.size, 0, none⟩)), (2, .pointer (some ⟨w1.heap.size, 0, none⟩)), (3, .slice au x.2.length cu), (4, .int .i64 (t : Nat)), (5, .int .i64 (s.1 : Nat))])
      (fun s w5 => s.1 ≤ x.2.length ∧ s.2.length = x.2.length ∧ passL x u = passGo x (x.2.length - s.1) s.1 s.2 ∧ Own w2.heap.size 4 w5 (.slice au x.2.length cu) (Bools s.2) ∧ Below w2.heap.size w2 w5)
      (fun s => x.2.length - s.1) (0, u) ⟨rfl, rfl, rfl, rfl, rfl, trivial⟩ ⟨by dsimp only; omega, hul, hpl, hown4, hbl4⟩ ?_
    rintro ⟨k, u1⟩ w5 ⟨hk, hul1, hps, hown5, hbl5⟩
    dsimp only at hk hul1 hps hown5 ⊢
    have hz5 := hbl5.size
    have hb15 := hb12.below hbl5 (by omega)
    repeat' (first|refine X.O ?_|refine X.A ?_|refine X.B ?_|refine X.C ?_|refine X.D ?_|refine X.E ?_|refine X.F ?_|refine X.G ?_|refine X.H ?_|refine X.I ?_|fail)
    refine WL.fld hb15 ?_
    intro p3
    repeat' (first|refine X.O ?_|refine X.A ?_|refine X.B ?_|refine X.C ?_|refine X.D ?_|refine X.E ?_|refine X.F ?_|refine X.G ?_|refine X.H ?_|refine X.I ?_|fail)
    first|refine X.J (fun _ => ?_) (fun _ => ?_)|refine X.L (fun _ => ?_) (fun _ => ?_)|refine X.M (fun _ => ?_) (fun _ => ?_)|refine X.R (fun _ => ?_) (fun _ => ?_)|fail
    · rename_i hltk
      have hlk : k < x.2.length := by omega
      have hlku : k < u1.length := by omega
      rw [show x.2.length - k = (x.2.length - (k + 1)) + 1 from by omega, passGo] at hps
      have hB5 := (hB.below RI.stable hbl12 hz).below RI.stable hbl5 (by omega)
      have eh0 := hitI_zero x u1 k
      rw [List.getElem?_eq_getElem hlku, List.getElem?_eq_getElem hlk, Option.getD_some, Option.getD_some] at eh0
      repeat' (first|refine X.A ?_|refine X.B ?_|refine X.C ?_|refine X.D ?_|refine X.E ?_|refine WL.nil ?_|refine thenN ?_|refine WP.seq ?_|refine WP.block ?_|refine thenR ?_|refine thenX ?_|refine blkN ?_|refine X.F ?_|refine blkR ?_|refine X.G ?_|refine WP.ret ?_|refine WP.exit ?_|refine WP.skip ?_|refine WP.label ?_|refine X.H ?_|refine X.I ?_|fail)
      refine WP.mid (fun l' w' => Agree l' [(1, .pointer (some ⟨w.heap.size, 0, none⟩)), (2, .pointer (some ⟨w1.heap.size, 0, none⟩)), (3, .slice au x.2.length cu), (4, .int .i64 (t : Nat)), (5, .int .i64 (k : Nat))] ∧ Own w2.heap.size 4 w' (.slice au x.2.length cu) (Bools (u1.set k (hitI x u1 k 0))) ∧ Below w2.heap.size w2 w') ?_ ?_
      · refine WP.region ?_
        repeat' (first|refine X.O ?_|refine X.A ?_|refine X.B ?_|refine X.C ?_|refine X.D ?_|refine X.E ?_|refine X.F ?_|refine X.G ?_|refine X.H ?_|refine X.I ?_|fail)
        refine WL.ixload hown5.isB (List.getElem?_eq_getElem hlku) ?_
        rintro p4 _ rfl
        repeat' (first|refine X.O ?_|refine X.A ?_|refine X.B ?_|refine X.C ?_|refine X.D ?_|refine X.E ?_|refine X.F ?_|refine X.G ?_|refine X.H ?_|refine X.I ?_|fail)
        refine WL.gsplit (by rfl) (by rfl) (by rfl) (fun hu => ?_) (fun hu => ?_)
        · rw [hu, Bool.true_or] at eh0
          repeat' (first|refine X.O ?_|refine X.A ?_|refine X.B ?_|refine X.C ?_|refine X.D ?_|refine X.E ?_|refine X.F ?_|refine X.G ?_|refine X.H ?_|refine X.I ?_|fail)
          refine WL.ixstore (j := k) hown5 (by rw [Bools_length]; exact hlku) ?_
          intro p5 w6 hown6 hbl6 hz6 _
          rw [Bools_set, ← eh0] at hown6
          repeat' (first|refine X.O ?_|refine X.A ?_|refine X.B ?_|refine X.C ?_|refine X.D ?_|refine X.E ?_|refine X.F ?_|refine X.G ?_|refine X.H ?_|refine X.I ?_|fail)
          exact ⟨⟨rfl, rfl, rfl, rfl, rfl, trivial⟩, hown6, hbl5.trans hbl6⟩
        · rw [hu, Bool.false_or] at eh0
          repeat' (first|refine X.O ?_|refine X.A ?_|refine X.B ?_|refine X.C ?_|refine X.D ?_|refine X.E ?_|refine X.F ?_|refine X.G ?_|refine X.H ?_|refine X.I ?_|fail)
          refine WL.fld hb15 ?_
          intro p6
          repeat' (first|refine X.O ?_|refine X.A ?_|refine X.B ?_|refine X.C ?_|refine X.D ?_|refine X.E ?_|refine X.F ?_|refine X.G ?_|refine X.H ?_|refine X.I ?_|fail)
          refine WL.ixload hB5 (List.getElem?_eq_getElem hlk) ?_
          rintro p7 _ rfl
          repeat' (first|refine X.O ?_|refine X.A ?_|refine X.B ?_|refine X.C ?_|refine X.D ?_|refine X.E ?_|refine X.F ?_|refine X.G ?_|refine X.H ?_|refine X.I ?_|fail)
          refine WL.ixstore (j := k) hown5 (by rw [Bools_length]; exact hlku) ?_
          intro p5 w6 hown6 hbl6 hz6 _
          rw [Bools_set, ← eh0] at hown6
          repeat' (first|refine X.O ?_|refine X.A ?_|refine X.B ?_|refine X.C ?_|refine X.D ?_|refine X.E ?_|refine X.F ?_|refine X.G ?_|refine X.H ?_|refine X.I ?_|fail)
          exact ⟨⟨rfl, rfl, rfl, rfl, rfl, trivial⟩, hown6, hbl5.trans hbl6⟩
      rintro l6 w6 ⟨hag, hown6, hbl6⟩
      refine WP.frame _ hag ?_
      clear hag
      repeat' (first|refine X.O ?_|refine X.A ?_|refine X.B ?_|refine X.C ?_|refine X.D ?_|refine X.E ?_|refine X.F ?_|refine X.G ?_|refine X.H ?_|refine X.I ?_|fail)
      refine WP.loop (fun (i : Nat) => [(1, .pointer (some ⟨w.heap.size, 0, none⟩)), (2, .pointer (some ⟨w1.heap.size, 0, none⟩)), (3, .slice au x.2.length cu), (4, .int .i64 (t : Nat)), (5, .int .i64 (k : Nat)), (6, .int .i64 (i : Nat))])
        (fun i w7 => i ≤ x.2.length ∧ Own w2.heap.size 4 w7 (.slice au x.2.length cu) (Bools (u1.set k (hitI x u1 k i))) ∧ Below w2.heap.size w2 w7)
        (fun i => x.2.length - i) 0 ⟨rfl, rfl, rfl, rfl, rfl, rfl, trivial⟩ ⟨by omega, hown6, hbl6⟩ ?_
      rintro i w7 ⟨hi1, hown7, hbl7⟩
      have hz7 := hbl7.size
      have hb17 := hb12.below hbl7 (by omega)
      repeat' (first|refine X.O ?_|refine X.A ?_|refine X.B ?_|refine X.C ?_|refine X.D ?_|refine X.E ?_|refine X.F ?_|refine X.G ?_|refine X.H ?_|refine X.I ?_|fail)
      refine WL.fld hb17 ?_
      intro p8
      repeat' (first|refine X.O ?_|refine X.A ?_|refine X.B ?_|refine X.C ?_|refine X.D ?_|refine X.E ?_|refine X.F ?_|refine X.G ?_|refine X.H ?_|refine X.I ?_|fail)
      first|refine X.J (fun _ => ?_) (fun _ => ?_)|refine X.L (fun _ => ?_) (fun _ => ?_)|refine X.M (fun _ => ?_) (fun _ => ?_)|refine X.R (fun _ => ?_) (fun _ => ?_)|fail
      · rename_i hlti
        have hli : i < x.2.length := by omega
        have hlia : i < x.1.length := by omega
        have hrow := hx.row _ (List.getElem_mem hlia)
        have hlr : k < x.1[i].length := by omega
        have hsc := hitI_succ x u1 (i := i) hlku
        obtain ⟨ub, hub⟩ : ∃ ub, u1.set k (hitI x u1 k i) = ub := ⟨_, rfl⟩
        have hubl : ub.length = x.2.length := by rw [← hub, List.length_set]; exact hul1
        have hubk : ub[k]'(by omega) = hitI x u1 k i := by subst hub; rw [List.getElem_set_self]
        rw [hub] at hown7 hsc
        rw [List.getElem?_eq_getElem (show i < ub.length by omega), Option.getD_some, at2_eq hlia hlr] at hsc
        have hset : u1.set k (hitI x u1 k (i + 1)) = ub.set k (hitI x u1 k (i + 1)) := by rw [← hub, List.set_set]
        have hA7 := (hA.below IS.stable hbl12 hz).below IS.stable hbl7 (by omega)
        · repeat' (first|refine X.O ?_|refine X.A ?_|refine X.B ?_|refine X.C ?_|refine X.D ?_|refine X.E ?_|refine X.F ?_|refine X.G ?_|refine X.H ?_|refine X.I ?_|fail)
          refine WL.ixload (j := k) hown7.isB (List.getElem?_eq_getElem (by omega)) ?_
          rintro q1 _ rfl
          rw [hubk]
          repeat' (first|refine X.O ?_|refine X.A ?_|refine X.B ?_|refine X.C ?_|refine X.D ?_|refine X.E ?_|refine X.F ?_|refine X.G ?_|refine X.H ?_|refine X.I ?_|fail)
          refine WL.gsplit (by rfl) (by rfl) (by rfl) (fun hu => ?_) (fun hu => ?_)
          · rw [hu, Bool.true_or] at hsc
            repeat' (first|refine X.O ?_|refine X.A ?_|refine X.B ?_|refine X.C ?_|refine X.D ?_|refine X.E ?_|refine X.F ?_|refine X.G ?_|refine X.H ?_|refine X.I ?_|fail)
            refine WL.ixstore (j := k) hown7 (by rw [Bools_length]; omega) ?_
            intro q2 w8 hown8 hbl8 hz8 _
            rw [Bools_set, ← hsc] at hown8
            repeat' (first|refine X.O ?_|refine X.A ?_|refine X.B ?_|refine X.C ?_|refine X.D ?_|refine X.E ?_|refine X.F ?_|refine X.G ?_|refine X.H ?_|refine X.I ?_|fail)
            exact ⟨i + 1, ⟨rfl, rfl, rfl, rfl, rfl, (by first|rfl|exact X.T (by omega)), trivial⟩, ⟨by omega, by rw [hset]; exact hown8, hbl7.trans hbl8⟩, by omega⟩
          · rw [hu, Bool.false_or] at hsc
            repeat' (first|refine X.O ?_|refine X.A ?_|refine X.B ?_|refine X.C ?_|refine X.D ?_|refine X.E ?_|refine X.F ?_|refine X.G ?_|refine X.H ?_|refine X.I ?_|fail)
            refine WL.ixload (j := i) hown7.isB (List.getElem?_eq_getElem (by omega)) ?_
            rintro q3 _ rfl
            repeat' (first|refine X.O ?_|refine X.A ?_|refine X.B ?_|refine X.C ?_|refine X.D ?_|refine X.E ?_|refine X.F ?_|refine X.G ?_|refine X.H ?_|refine X.I ?_|fail)
            refine WL.gsplit (by rfl) (by rfl) (by rfl) (fun hv => ?_) (fun hv => ?_)
            · rw [hv, Bool.true_and] at hsc
              repeat' (first|refine X.O ?_|refine X.A ?_|refine X.B ?_|refine X.C ?_|refine X.D ?_|refine X.E ?_|refine X.F ?_|refine X.G ?_|refine X.H ?_|refine X.I ?_|fail)
              refine WL.fld hb17 ?_
              intro q4
              repeat' (first|refine X.O ?_|refine X.A ?_|refine X.B ?_|refine X.C ?_|refine X.D ?_|refine X.E ?_|refine X.F ?_|refine X.G ?_|refine X.H ?_|refine X.I ?_|fail)
              refine WL.ixload hA7 (List.getElem?_eq_getElem hlia) ?_
              intro q5 u2 hu2
              repeat' (first|refine X.O ?_|refine X.A ?_|refine X.B ?_|refine X.C ?_|refine X.D ?_|refine X.E ?_|refine X.F ?_|refine X.G ?_|refine X.H ?_|refine X.I ?_|fail)
              refine WL.ixload (j := k) hu2 (List.getElem?_eq_getElem hlr) ?_
              rintro q6 _ rfl
              repeat' (first|refine X.O ?_|refine X.A ?_|refine X.B ?_|refine X.C ?_|refine X.D ?_|refine X.E ?_|refine X.F ?_|refine X.G ?_|refine X.H ?_|refine X.I ?_|fail)
              refine WL.ixstore (j := k) hown7 (by rw [Bools_length]; omega) ?_
              intro q2 w8 hown8 hbl8 hz8 _
              rw [Bools_set, ← hsc] at hown8
              repeat' (first|refine X.O ?_|refine X.A ?_|refine X.B ?_|refine X.C ?_|refine X.D ?_|refine X.E ?_|refine X.F ?_|refine X.G ?_|refine X.H ?_|refine X.I ?_|fail)
              exact ⟨i + 1, ⟨rfl, rfl, rfl, rfl, rfl, (by first|rfl|exact X.T (by omega)), trivial⟩, ⟨by omega, by rw [hset]; exact hown8, hbl7.trans hbl8⟩, by omega⟩
            · rw [hv, Bool.false_and] at hsc
              repeat' (first|refine X.O ?_|refine X.A ?_|refine X.B ?_|refine X.C ?_|refine X.D ?_|refine X.E ?_|refine X.F ?_|refine X.G ?_|refine X.H ?_|refine X.I ?_|fail)
              refine WL.ixstore (j := k) hown7 (by rw [Bools_length]; omega) ?_
              intro q2 w8 hown8 hbl8 hz8 _
              rw [Bools_set, ← hsc] at hown8
              repeat' (first|refine X.O ?_|refine X.A ?_|refine X.B ?_|refine X.C ?_|refine X.D ?_|refine X.E ?_|refine X.F ?_|refine X.G ?_|refine X.H ?_|refine X.I ?_|fail)
              exact ⟨i + 1, ⟨rfl, rfl, rfl, rfl, rfl, (by first|rfl|exact X.T (by omega)), trivial⟩, ⟨by omega, by rw [hset]; exact hown8, hbl7.trans hbl8⟩, by omega⟩
      · rename_i hgei
        have hie : i = x.2.length := by omega
        rw [hie, hitI_end] at hown7
        repeat' (first|refine X.O ?_|refine X.A ?_|refine X.B ?_|refine X.C ?_|refine X.D ?_|refine X.E ?_|refine X.F ?_|refine X.G ?_|refine X.H ?_|refine X.I ?_|fail)
        exact ⟨(k + 1, u1.set k (hitK x u1 k)), ⟨rfl, rfl, rfl, rfl, (by first|rfl|exact X.T (by omega)), trivial⟩, ⟨by dsimp only; omega, by rw [List.length_set]; exact hul1, hps, hown7, hbl7⟩, by dsimp only; omega⟩
    · rename_i hgek
      have hke : k = x.2.length := by omega
      rw [hke, Nat.sub_self, passGo] at hps
      repeat' (first|refine X.O ?_|refine X.A ?_|refine X.B ?_|refine X.C ?_|refine X.D ?_|refine X.E ?_|refine X.F ?_|refine X.G ?_|refine X.H ?_|refine X.I ?_|fail)
      exact ⟨(t + 1, u1), ⟨rfl, rfl, rfl, (by first|rfl|exact X.T (by omega)), trivial⟩, ⟨by dsimp only; omega, hul1, by rw [hus, hps], hown5, hbl5⟩, by dsimp only; omega⟩
  · rename_i hgt
    have hte : x.2.length + 1 - t = 0 := by omega
    rw [hte, itP] at hus
    have husd : u = usedL x := by unfold usedL; exact hus.symm
    obtain ⟨pre, hpre⟩ : ∃ pre : Nat → List Int, pre = fun i => ((List.range i).filter fun j => u[j]?.getD false).map fun j => ((j : Nat) : Int) := ⟨_, rfl⟩
    have hpl : ∀ i, (pre i).length ≤ i := fun i => by
      subst hpre
      dsimp only
      rw [List.length_map]
      have := List.length_filter_le (fun (j : Nat) => u[j]?.getD false) (List.range i)
      rw [List.length_range] at this
      exact this
    have hpend : pre x.2.length = usedO (usedL x) := by subst hpre; rw [← husd]; unfold usedO; rw [hul]
    have hps : ∀ i, pre (i + 1) = pre i ++ (if u[i]?.getD false = true then [((i : Nat) : Int)] else []) := fun i => by subst hpre; exact usedO_succ u i
    repeat' (first|refine X.O ?_|refine X.A ?_|refine X.B ?_|refine X.C ?_|refine X.D ?_|refine X.E ?_|refine X.F ?_|refine X.G ?_|refine X.H ?_|refine X.I ?_|fail)
    refine WL.step (o_lit (us := []) (by rfl) (by rfl) rfl (by decide) one0 ?_)
    intro v6 w6 hown6 hbl6 hz6 _
    repeat' (first|refine X.O ?_|refine X.A ?_|refine X.B ?_|refine X.C ?_|refine X.D ?_|refine X.E ?_|refine X.F ?_|refine X.G ?_|refine X.H ?_|refine X.I ?_|fail)
    refine WP.loop (fun (s : Nat × Value) => [(1, .pointer (some ⟨w.heap.size, 0, none⟩)), (2, .pointer (some ⟨w1.heap.size, 0, none⟩)), (3, .slice au x.2.length cu), (7, s.2), (8, .int .i64 (s.1 : Nat))])
      (fun s w7 => s.1 ≤ x.2.length ∧ Own w4.heap.size 2 w7 s.2 (Ints (pre s.1)) ∧ Below w4.heap.size w4 w7)
      (fun s => x.2.length - s.1) (0, v6) ⟨rfl, rfl, rfl, rfl, rfl, trivial⟩ ⟨by dsimp only; omega, by subst hpre; simpa [Ints] using hown6, hbl6⟩ ?_
    rintro ⟨i, v7⟩ w7 ⟨hi1, hown7, hbl7⟩
    dsimp only at hi1 hown7 ⊢
    have hz7 := hbl7.size
    have hU7 := hown4.isB.below RB.stable hbl7 (Nat.le_refl _)
    repeat' (first|refine X.O ?_|refine X.A ?_|refine X.B ?_|refine X.C ?_|refine X.D ?_|refine X.E ?_|refine X.F ?_|refine X.G ?_|refine X.H ?_|refine X.I ?_|fail)
    first|refine X.J (fun _ => ?_) (fun _ => ?_)|refine X.L (fun _ => ?_) (fun _ => ?_)|refine X.M (fun _ => ?_) (fun _ => ?_)|refine X.R (fun _ => ?_) (fun _ => ?_)|fail
    · rename_i hlt
      have hli : i < u.length := by omega
      have hpi := hpl i
      have hps1 := hps i
      rw [List.getElem?_eq_getElem hli, Option.getD_some] at hps1
      repeat' (first|refine X.O ?_|refine X.A ?_|refine X.B ?_|refine X.C ?_|refine X.D ?_|refine X.E ?_|refine X.F ?_|refine X.G ?_|refine X.H ?_|refine X.I ?_|fail)
      refine WL.ixload (j := i) hU7 (List.getElem?_eq_getElem hli) ?_
      rintro p1 _ rfl
      repeat' (first|refine X.O ?_|refine X.A ?_|refine X.B ?_|refine X.C ?_|refine X.D ?_|refine X.E ?_|refine X.F ?_|refine X.G ?_|refine X.H ?_|refine X.I ?_|fail)
      refine WP.cond (by rfl) (fun hu => ?_) (fun hu => ?_)
      · rw [if_pos hu] at hps1
        repeat' (first|refine X.O ?_|refine X.A ?_|refine X.B ?_|refine X.C ?_|refine X.D ?_|refine X.E ?_|refine X.F ?_|refine X.G ?_|refine X.H ?_|refine X.I ?_|fail)
        refine o_append1 (u := .int .i64 (i : Nat)) (fun _ => by rfl) (by rfl) hown7 (by rfl) (by simp [Ints, maxLen]; omega) (by simp [Ints]; omega) (by omega) ?_
        intro p2 v8 w8 hown8 hbl8 hf8 hz8 _
        repeat' (first|refine X.O ?_|refine X.A ?_|refine X.B ?_|refine X.C ?_|refine X.D ?_|refine X.E ?_|refine X.F ?_|refine X.G ?_|refine X.H ?_|refine X.I ?_|fail)
        exact ⟨(i + 1, v8), ⟨rfl, rfl, rfl, rfl, (by first|rfl|exact X.T (by omega)), trivial⟩, ⟨by dsimp only; omega, by dsimp only; rw [hps1, Ints_append]; exact hown8, hbl7.trans hbl8⟩, by dsimp only; omega⟩
      · rw [if_neg (by rw [hu]; decide), List.append_nil] at hps1
        repeat' (first|refine X.O ?_|refine X.A ?_|refine X.B ?_|refine X.C ?_|refine X.D ?_|refine X.E ?_|refine X.F ?_|refine X.G ?_|refine X.H ?_|refine X.I ?_|fail)
        exact ⟨(i + 1, v7), ⟨rfl, rfl, rfl, rfl, (by first|rfl|exact X.T (by omega)), trivial⟩, ⟨by dsimp only; omega, by dsimp only; rw [hps1]; exact hown7, hbl7⟩, by dsimp only; omega⟩
    · rename_i hge
      have hie : i = x.2.length := by omega
      rw [hie, hpend] at hown7
      obtain ⟨o, ho⟩ : ∃ o, usedO (usedL x) = o := ⟨_, rfl⟩
      have hol : o.length ≤ x.2.length := by rw [← ho]; have := usedO_len (usedL x); rw [usedL_length] at this; exact this
      have hok : OrdOk x.2.length o := by rw [← ho]; have := usedO_ok (u := usedL x); rw [usedL_length] at this; exact this
      rw [ho] at hown7
      obtain ⟨ao, co, hvo, _⟩ := hown7.shape
      rw [Ints_length] at hvo
      subst hvo
      have hb17 := (hb14.below hbl7 (by omega))
      have hb27 := (hb2.below hbl4 (by omega)).below hbl7 (by omega)
      have hT7 : IT lo hi w7 (.agg #[va, .slice ab x.2.length cb]) x := ((hT.below hbl12 hz).below hbl4 (by omega)).below hbl7 (by omega)
      have hO7 : IS w4.heap.size w7.heap.size w7 (.slice ao o.length co) o := (⟨hown7, fun k hk => (hown7.block k hk).2, Nat.le_refl _⟩ : OwI 2 w4.heap.size w7.heap.size w7 _ o).rd
      have hc7 : Chg 0 0 w w7 := Chg.of_below ((hbl12.trans (Below.mono hbl4 (by omega))).trans (Below.mono hbl7 (by omega)))
      have hfin : ∀ (w8 : World) v8 z, OwT 25 2 w7.heap.size w8.heap.size w8 v8 z → Chg 0 0 w7 w8 → z = dropL x → ∀ w9, But w1.heap.size w8 w9 → OwT 25 2 w.heap.size w9.heap.size w9 v8 (dropL x) ∧ Chg 0 0 w w9 := fun w8 v8 z hT8 hc8 hz8 w9 hbut9 => by
        subst hz8
        have hz9 := hbut9.size
        have hz8 := hc8.size
        refine ⟨(hT8.chg hbut9.chg (Or.inr (by omega))).wide (by omega) (by omega) (Nat.le_refl _), ?_⟩
        have hc9 := hbut9.chg
        refine ⟨by rw [hc9.os, hc8.os, hc7.os], by rw [hc9.tape, hc8.tape, hc7.tape], by rw [hc9.output, hc8.output, hc7.output], by omega, fun k hk hd => ?_⟩
        rw [hc9.block k (by omega) (by omega), hc8.block k (by omega) (by omega), hc7.block k hk (by omega)]
      repeat' (first|refine X.O ?_|refine X.A ?_|refine X.B ?_|refine X.C ?_|refine X.D ?_|refine X.E ?_|refine X.F ?_|refine X.G ?_|refine X.H ?_|refine X.I ?_|fail)
      first|refine X.J (fun _ => ?_) (fun _ => ?_)|refine X.L (fun _ => ?_) (fun _ => ?_)|refine X.M (fun _ => ?_) (fun _ => ?_)|refine X.R (fun _ => ?_) (fun _ => ?_)|fail
      · rename_i h0
        have hnil : o = [] := List.eq_nil_of_length_eq_zero (by omega)
        repeat' (first|refine X.O ?_|refine X.A ?_|refine X.B ?_|refine X.C ?_|refine X.D ?_|refine X.E ?_|refine X.F ?_|refine X.G ?_|refine X.H ?_|refine X.I ?_|fail)
        refine WL.call (sNeutralTableau_any _) ?_
        rintro v8 w8 ⟨hT8, hc8⟩
        obtain ⟨a1, n1, c1, a2, n2, c2, hv8⟩ := hT8.cells
        subst hv8
        refine WL.step (o_storeS (vs := [.slice a1 n1 c1, .slice a2 n2 c2]) (by rfl) (by rfl) (hb27.chg hc8 (by omega)) (by rfl) (by rfl) two_cells ?_)
        intro w9 hb9 hbut9
        have hr := hfin w8 _ _ hT8 hc8 (by unfold dropL; rw [ho, if_pos hnil]) w9 hbut9
        repeat' (first|refine X.O ?_|refine X.A ?_|refine X.B ?_|refine X.C ?_|refine X.D ?_|refine X.E ?_|refine X.F ?_|refine X.G ?_|refine X.H ?_|refine X.I ?_|fail)
        exact ⟨_, retS rfl (by rfl) hb9 (by rfl), hr⟩
      · rename_i h0
        have hnil : ¬ o = [] := fun e => by subst e; exact h0 (by rfl)
        repeat' (first|refine X.O ?_|refine X.A ?_|refine X.B ?_|refine X.C ?_|refine X.D ?_|refine X.E ?_|refine X.F ?_|refine X.G ?_|refine X.H ?_|refine X.I ?_|fail)
        refine WL.step (o_loadS (by rfl) hb17 (by rfl) ?_)
        repeat' (first|refine X.O ?_|refine X.A ?_|refine X.B ?_|refine X.C ?_|refine X.D ?_|refine X.E ?_|refine X.F ?_|refine X.G ?_|refine X.H ?_|refine X.I ?_|fail)
        refine WL.call (l10Permute_any hT7 hO7 hx hok (by omega)) ?_
        rintro v8 w8 ⟨hT8, hc8⟩
        obtain ⟨a1, n1, c1, a2, n2, c2, hv8⟩ := hT8.cells
        subst hv8
        refine WL.step (o_storeS (vs := [.slice a1 n1 c1, .slice a2 n2 c2]) (by rfl) (by rfl) (hb27.chg hc8 (by omega)) (by rfl) (by rfl) two_cells ?_)
        intro w9 hb9 hbut9
        have hr := hfin w8 _ _ hT8 hc8 (by unfold dropL; rw [ho, if_neg hnil]) w9 hbut9
        repeat' (first|refine X.O ?_|refine X.A ?_|refine X.B ?_|refine X.C ?_|refine X.D ?_|refine X.E ?_|refine X.F ?_|refine X.G ?_|refine X.H ?_|refine X.I ?_|fail)
        exact ⟨_, retS rfl (by rfl) hb9 (by rfl), hr⟩
end Go.Proofs
