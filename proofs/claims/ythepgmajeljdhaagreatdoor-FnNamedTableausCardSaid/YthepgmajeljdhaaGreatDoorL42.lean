/- The law of the named tableaus, walked. -/
import Derived.Test.YthepgmajeljdhaaGreatDoorM9
import Derived.Test.YthepgmajeljdhaaGreatDoorV3
import Derived.Test.YthepgmajeljdhaaGreatDoorZL
import Derived.Test.YthepgmajeljdhaaGreatDoorA29
import Derived.Test.YthepgmajeljdhaaGreatDoorA34
import Derived.Test.YthepgmajeljdhaaGreatDoorT2
import Derived.Test.YthepgmajeljdhaaGreatDoorD8
set_option maxRecDepth 8000
namespace Go.Rk
open Go.Fw Go.Proofs
theorem ord_at {i : Nat} (h : i < 12) : orderOf (tab12.getD i ([], [])) = (ords12.getD i 0, 0) := by
  have h1 : (tab12.map orderOf)[i]? = (ords12.map fun p => (p, (0 : Int)))[i]? := by rw [ord12]
  rw [List.getElem?_map, List.getElem?_map, List.getElem?_eq_getElem (show i < tab12.length from h), List.getElem?_eq_getElem (show i < ords12.length from h)] at h1
  simp only [Option.map_some, Option.some.injEq] at h1
  rw [List.getD_eq_getElem?_getD, List.getD_eq_getElem?_getD, List.getElem?_eq_getElem (show i < tab12.length from h), List.getElem?_eq_getElem (show i < ords12.length from h)]
  exact h1
theorem exp_at {i : Nat} (h : i < 12) : isExplicit (tab12.getD i ([], [])) = (expl12.getD i false, 0) := by
  have h1 : (tab12.map isExplicit)[i]? = (expl12.map fun p => (p, (0 : Int)))[i]? := by rw [exp12]
  rw [List.getElem?_map, List.getElem?_map, List.getElem?_eq_getElem (show i < tab12.length from h), List.getElem?_eq_getElem (show i < expl12.length from h)] at h1
  simp only [Option.map_some, Option.some.injEq] at h1
  rw [List.getD_eq_getElem?_getD, List.getD_eq_getElem?_getD, List.getElem?_eq_getElem (show i < tab12.length from h), List.getElem?_eq_getElem (show i < expl12.length from h)]
  exact h1
theorem dia_at {i : Nat} (h : i < 12) : ∃ d, isDiagonal (tab12.getD i ([], [])) = (d, 0) ∧ (expl12.getD i false = true → d = true) := by
  have h1 := List.all_eq_true.1 dia12 i (List.mem_range.2 h)
  rw [exp_at h] at h1
  obtain ⟨h2, h3⟩ := Bool.and_eq_true_iff.1 h1
  refine ⟨_, Prod.ext rfl (of_decide_eq_true h2), fun he => ?_⟩
  rcases Bool.or_eq_true_iff.1 h3 with h4 | h4
  · rw [he] at h4; cases h4
  · exact h4
theorem nod_at {i : Nat} (h : i < 12) : ∃ ns, nodesOf (tab12.getD i ([], [])) = (ns, 0) ∧ stageWeights (tab12.getD i ([], [])) [0, 1] = (ns, 0) := by
  have h1 : (tab12.map nodesOf)[i]? = (tab12.map fun x => stageWeights x [0, 1])[i]? := by rw [nod12]
  rw [List.getElem?_map, List.getElem?_map, List.getElem?_eq_getElem (show i < tab12.length from h)] at h1
  simp only [Option.map_some, Option.some.injEq] at h1
  have hx := tab12_get h
  rw [List.getD_eq_getElem?_getD, List.getElem?_eq_getElem (show i < tab12.length from h)] at hx ⊢
  simp only [Option.getD_some] at hx ⊢
  exact ⟨nodesL tab12[i].1, by unfold nodesOf; exact if_pos hx, by rw [← h1]; unfold nodesOf; exact if_pos hx⟩
theorem count_step {i : Nat} (h : i < 12) : (expl12.take (i + 1)).count true = (expl12.take i).count true + if expl12.getD i false = true then 1 else 0 := by
  rw [List.take_succ_eq_append_getElem (show i < expl12.length from h), List.count_append, List.getD_eq_getElem?_getD, List.getElem?_eq_getElem (show i < expl12.length from h)]
  simp only [Option.getD_some]
  cases expl12[i]'(show i < expl12.length from h) <;> simp
theorem count_le (i : Nat) : (expl12.take i).count true ≤ 12 := by
  have h1 := List.count_le_length (a := true) (l := expl12.take i)
  have h2 : (expl12.take i).length ≤ 12 := by rw [List.length_take]; exact Nat.min_le_right _ _
  omega
theorem nm12_len {i : Nat} (h : i < 12) : (nm12.getD i []).length ≤ 4000000000 := by
  have key : (List.range 12).all (fun i => decide ((nm12.getD i []).length ≤ 100)) = true := by kernel_rfl
  have := of_decide_eq_true (List.all_eq_true.1 key i (List.mem_range.2 h))
  omega
theorem nm12_get {i : Nat} (h : i < 12) : (nm12.map St)[i]? = some (St (nm12.getD i [])) := by
  rw [List.getElem?_map, List.getElem?_eq_getElem (show i < nm12.length from h), List.getD_eq_getElem?_getD, List.getElem?_eq_getElem (show i < nm12.length from h)]; rfl
end Go.Rk
namespace Go.Proofs
open Go Go.Fw Go.RowKit Go.Rk
set_option maxHeartbeats 4000000 in
theorem FnNamedTableaus_any {w : World} {lo hi : Nat} {v : Value} {bs : List Int} (h : IU lo hi w v bs) (hSW : SW w) : Does Tryz.prog 4 [v] w fun r w' => r = .bool true ∧ Below w.heap.size w w' := by
  refine Does.enter Tryz.func4 Tryz.ntmps4 rfl (by rfl) ?_
  repeat' (first|refine X.O ?_|refine X.A ?_|refine X.B ?_|refine X.C ?_|refine X.D ?_|refine X.E ?_|refine X.F ?_|refine X.G ?_|refine X.H ?_|refine X.I ?_|fail)
  refine WL.call (big_any h) ?_
  rintro _ w0 ⟨rfl, hs0⟩
  repeat' (first|refine X.O ?_|refine X.A ?_|refine X.B ?_|refine X.C ?_|refine X.D ?_|refine X.E ?_|refine X.F ?_|refine X.G ?_|refine X.H ?_|refine X.I ?_|fail)
  first|refine X.J (fun _ => ?_) (fun _ => ?_)|refine X.L (fun _ => ?_) (fun _ => ?_)|refine X.M (fun _ => ?_) (fun _ => ?_)|refine X.R (fun _ => ?_) (fun _ => ?_)|fail
  · repeat' (first|refine X.O ?_|refine X.A ?_|refine X.B ?_|refine X.C ?_|refine X.D ?_|refine X.E ?_|refine X.F ?_|refine X.G ?_|refine X.H ?_|refine X.I ?_|fail)
    refine ⟨_, ret1 rfl (by rfl), ?_⟩
    exact ⟨rfl, hs0.below _⟩
  repeat' (first|refine X.O ?_|refine X.A ?_|refine X.B ?_|refine X.C ?_|refine X.D ?_|refine X.E ?_|refine X.F ?_|refine X.G ?_|refine X.H ?_|refine X.I ?_|fail)
  refine WL.call (TableauNames_any w0) ?_
  rintro v1 w1 ⟨hn1, hc1⟩
  repeat' (first|refine X.O ?_|refine X.A ?_|refine X.B ?_|refine X.C ?_|refine X.D ?_|refine X.E ?_|refine X.F ?_|refine X.G ?_|refine X.H ?_|refine X.I ?_|fail)
  refine WL.call (sTableauNames_any w1) ?_
  rintro v2 w2 ⟨hn2, hc2⟩
  have hb2 : Below w.heap.size w w2 := (hs0.below _).trans ((hc1.below (by rw [hs0.heap]; exact Nat.le_refl _) (Or.inr (Nat.zero_le _))).trans (hc2.below (by have := hc1.size; rw [hs0.heap] at this; exact this) (Or.inr (Nat.zero_le _))))
  have hb21 : Below w1.heap.size w1 w2 := hc2.below (Nat.le_refl _) (Or.inr (Nat.zero_le _))
  rw [namesV_eq] at hn1 hn2
  have r1 := hn1.rd.below RV.stable hb21 (Nat.le_refl _)
  have r2 := hn2.rd
  obtain ⟨a1, c1, hv1, _⟩ := hn1.own.shape
  obtain ⟨a2, c2, hv2, _⟩ := hn2.own.shape
  rw [List.length_map, show nm12.length = 12 from rfl] at hv1 hv2
  subst hv1 hv2
  clear hn1 hn2 hc1 hc2
  repeat' (first|refine X.O ?_|refine X.A ?_|refine X.B ?_|refine X.C ?_|refine X.D ?_|refine X.E ?_|refine X.F ?_|refine X.G ?_|refine X.H ?_|refine X.I ?_|fail)
  refine WL.step (o_lit (us := Ints ords12) (by rfl) (by rfl) rfl (by decide) Ints_one ?_)
  intro v3 w3 hown3 hbl3 hz3 _
  have r3 := hown3.toIS (Nat.le_refl _)
  obtain ⟨a3, c3, hv3⟩ := r3.shape
  subst hv3
  replace r1 := r1.below RV.stable hbl3 r1.1
  replace r2 := r2.below RV.stable hbl3 r2.1
  have hb3 : Below w.heap.size w w3 := hb2.trans (Below.mono hbl3 hb2.size)
  clear hown3 hbl3 hb21
  repeat' (first|refine X.O ?_|refine X.A ?_|refine X.B ?_|refine X.C ?_|refine X.D ?_|refine X.E ?_|refine X.F ?_|refine X.G ?_|refine X.H ?_|refine X.I ?_|fail)
  refine WP.loop (fun (i : Nat) => [(3, .slice a1 12 c1), (4, .slice a2 12 c2), (5, .slice a3 12 c3), (6, .int .i64 ((expl12.take i).count true : Nat)), (7, .int .i64 (i : Nat))])
    (fun i y => i ≤ 12 ∧ Below w3.heap.size w3 y) (fun i => 12 - i) 0 ⟨rfl, rfl, rfl, rfl, rfl, trivial⟩ ⟨by omega, Below.refl _ _⟩ ?_
  rintro i y ⟨hi, hby⟩
  have hyb : Below w.heap.size w y := hb3.trans (Below.mono hby hb3.size)
  have q1 := r1.below RV.stable hby r1.1
  have q2 := r2.below RV.stable hby r2.1
  have q3 := r3.below RI.stable hby r3.1
  have hcl := count_le i
  repeat' (first|refine X.O ?_|refine X.A ?_|refine X.B ?_|refine X.C ?_|refine X.D ?_|refine X.E ?_|refine X.F ?_|refine X.G ?_|refine X.H ?_|refine X.I ?_|fail)
  first|refine X.J (fun _ => ?_) (fun _ => ?_)|refine X.L (fun _ => ?_) (fun _ => ?_)|refine X.M (fun _ => ?_) (fun _ => ?_)|refine X.R (fun _ => ?_) (fun _ => ?_)|fail
  · rename_i hlt
    have hli : i < 12 := by omega
    have eN := namedTab_at hli
    have eO := ord_at hli
    have eE := exp_at hli
    obtain ⟨dg, eD, hde⟩ := dia_at hli
    obtain ⟨ns, eNo, eSt⟩ := nod_at hli
    have hst := count_step hli
    have hn12 := nm12_get hli
    have hnl := nm12_len hli
    have ho12 : ords12[i]? = some (ords12.getD i 0) := by rw [List.getD_eq_getElem?_getD, List.getElem?_eq_getElem (show i < ords12.length from hli)]; rfl
    obtain ⟨nm, hnm⟩ : ∃ nm, nm12.getD i [] = nm := ⟨_, rfl⟩
    obtain ⟨x, hx⟩ : ∃ x, tab12.getD i ([], []) = x := ⟨_, rfl⟩
    obtain ⟨od, hod⟩ : ∃ od, ords12.getD i 0 = od := ⟨_, rfl⟩
    obtain ⟨ex, hex⟩ : ∃ ex, expl12.getD i false = ex := ⟨_, rfl⟩
    rw [hnm, hx] at eN
    rw [hx, hod] at eO
    rw [hx, hex] at eE
    rw [hx] at eD eNo eSt
    rw [hex] at hde hst
    rw [hnm] at hn12 hnl
    rw [hod] at ho12
    have hT : HaveT y y [] := ⟨Below.refl _ _, fun p hp => by simp at hp⟩
    repeat' (first|refine X.O ?_|refine X.A ?_|refine X.B ?_|refine X.C ?_|refine X.D ?_|refine X.E ?_|refine X.F ?_|refine X.G ?_|refine X.H ?_|refine X.I ?_|fail)
    refine WL.ixload (j := i) q1 hn12 ?_
    intro p u hu
    rw [show u = St nm from hu]
    clear hu u
    refine WL.call (NamedTableau_any nm hnl (hSW.below hyb)) ?_
    intro r4 w4 h4
    rw [eN] at h4
    obtain ⟨xa, xb, rfl, rX, hxc, hc4⟩ := ResT.rt h4
    clear h4
    replace hT := hT.chg hc4
    have hb4 : Below y.heap.size y w4 := hc4.below (Nat.le_refl _) (Or.inr (Nat.zero_le _))
    repeat' (first|refine X.O ?_|refine X.A ?_|refine X.B ?_|refine X.C ?_|refine X.D ?_|refine X.E ?_|refine X.F ?_|refine X.G ?_|refine X.H ?_|refine X.I ?_|fail)
    refine WL.var (vs := [xa, xb]) (fun _ => by rfl) (by rfl) hxc ?_
    intro w5 hbx hbl5 hz5
    replace hT := hT.add 0 rX hbx hbl5
    have hb5 := hb4.trans (Below.mono hbl5 hb4.size)
    repeat' (first|refine X.O ?_|refine X.A ?_|refine X.B ?_|refine X.C ?_|refine X.D ?_|refine X.E ?_|refine X.F ?_|refine X.G ?_|refine X.H ?_|refine X.I ?_|fail)
    refine WL.ixload (j := i) (q2.below RV.stable hb5 q2.1) hn12 ?_
    intro p u hu
    rw [show u = St nm from hu]
    clear hu u
    refine WL.call (sNamedTableau_any nm hnl w5) ?_
    intro r6 w6 h6
    rw [eN] at h6
    obtain ⟨ya, yb, rfl, rY, hyc, hc6⟩ := ResT.rt h6
    clear h6
    replace hT := hT.chg hc6
    have hb6 := hb5.trans (Below.mono (hc6.below (Nat.le_refl _) (Or.inr (Nat.zero_le _))) hb5.size)
    repeat' (first|refine X.O ?_|refine X.A ?_|refine X.B ?_|refine X.C ?_|refine X.D ?_|refine X.E ?_|refine X.F ?_|refine X.G ?_|refine X.H ?_|refine X.I ?_|fail)
    refine WL.var (vs := [ya, yb]) (fun _ => by rfl) (by rfl) hyc ?_
    intro w7 hbz hbl7 hz7
    replace hT := hT.add 1 rY hbz hbl7
    have hb7 := hb6.trans (Below.mono hbl7 hb6.size)
    have z7 := hb7.size
    repeat' (first|refine X.O ?_|refine X.A ?_|refine X.B ?_|refine X.C ?_|refine X.D ?_|refine X.E ?_|refine X.F ?_|refine X.G ?_|refine X.H ?_|refine X.I ?_|fail)
    refine WP.drawn (fun w' => Below w7.heap.size w7 w') [(0, true), (1, true), (2, true), (3, true), (4, true), (5, true), (6, true), (7, true), (8, true), (9, true), (10, true), (11, true), (12, true), (13, true), (14, true), (15, true), (16, true), (17, true), (18, true), (19, true), (20, false), (21, true), (22, true)] (by kernel_rfl) mixed ?_
    intro w8 hst8
    have hS8 : Below w7.heap.size w7 w8 := hst8.below _
    have hT8 := hT.still hst8
    have q18 := q1.below RV.stable (hb7.trans (hst8.below _)) q1.1
    have q28 := q2.below RV.stable (hb7.trans (hst8.below _)) q2.1
    repeat' (first|refine X.U rfl ?_|refine X.V rfl ?_|refine X.W rfl ?_|refine X.Y rfl ?_|refine X.Z rfl ?_|refine WS.nil ?_|fail)
    refine WS.ixload (j := i) rfl rfl q18 hn12 (fun w' h => same_below hS8 h (by have := q1.1; omega)) hS8 ?_
    intro p u hu
    rw [show u = St nm from hu]
    clear hu u
    repeat' (first|refine X.U rfl ?_|refine X.V rfl ?_|refine X.W rfl ?_|refine X.Y rfl ?_|refine X.Z rfl ?_|refine WS.nil ?_|fail)
    refine WS.ixload (j := i) rfl rfl q28 hn12 (fun w' h => same_below hS8 h (by have := q2.1; omega)) hS8 ?_
    intro p u hu
    rw [show u = St nm from hu]
    clear hu u
    refine WS.q rfl (q_neqS (by rfl) (by rfl)) hS8 ?_
    repeat' (first|refine X.U rfl ?_|refine X.V rfl ?_|refine X.W rfl ?_|refine X.Y rfl ?_|refine X.Z rfl ?_|refine WS.nil ?_|fail)
    refine WS.q rfl (q_loadS (by rfl) (fun w' h => (hT.blk 0 rfl).below h (hT.blk 0 rfl).lt) (by rfl)) hS8 ?_
    refine WS.q rfl (q_loadS (by rfl) (fun w' h => (hT.blk 1 rfl).below h (hT.blk 1 rfl).lt) (by rfl)) hS8 ?_
    refine WS.call rfl (likeTableau5_rd (hT8.tab 0 rfl) (hT8.tab 1 rfl) rfl) ?_
    rintro _ w9 ⟨rfl, hb9⟩
    have hS9 : Below w7.heap.size w7 w9 := hS8.trans (Below.mono hb9 hS8.size)
    refine ⟨hS9, ?_⟩
    repeat' (first|refine X.U rfl ?_|refine X.V rfl ?_|refine X.W rfl ?_|refine X.Y rfl ?_|refine X.Z rfl ?_|refine WS.nil ?_|fail)
    replace hT := hT.next hS9
    have hb9' := hb7.trans (Below.mono hS9 hb7.size)
    clear hT8 q18 q28 hS8 hS9 hb7 hb6 hb5 hb4
    repeat' (first|refine X.O ?_|refine X.A ?_|refine X.B ?_|refine X.C ?_|refine X.D ?_|refine X.E ?_|refine X.F ?_|refine X.G ?_|refine X.H ?_|refine X.I ?_|fail)
    refine WL.step (o_loadS (by rfl) (hT.blk 0 rfl) (by rfl) ?_)
    obtain ⟨_, _, iX⟩ := hT.tab 0 rfl
    refine WL.call (OrderOf_any iX) ?_
    rintro _ w10 ⟨rfl, hc10⟩
    rw [eO]
    replace hT := hT.chg hc10
    repeat' (first|refine X.O ?_|refine X.A ?_|refine X.B ?_|refine X.C ?_|refine X.D ?_|refine X.E ?_|refine X.F ?_|refine X.G ?_|refine X.H ?_|refine X.I ?_|fail)
    refine WL.step (o_loadS (by rfl) (hT.blk 0 rfl) (by rfl) ?_)
    obtain ⟨_, _, iX⟩ := hT.tab 0 rfl
    refine WL.call (IsExplicit_any iX) ?_
    rintro _ w11 ⟨rfl, hc11⟩
    rw [eE]
    replace hT := hT.chg hc11
    repeat' (first|refine X.O ?_|refine X.A ?_|refine X.B ?_|refine X.C ?_|refine X.D ?_|refine X.E ?_|refine X.F ?_|refine X.G ?_|refine X.H ?_|refine X.I ?_|fail)
    refine WL.step (o_loadS (by rfl) (hT.blk 0 rfl) (by rfl) ?_)
    obtain ⟨_, _, iX⟩ := hT.tab 0 rfl
    refine WL.call (IsDiagonal_any iX) ?_
    rintro _ w12 ⟨rfl, hc12⟩
    rw [eD]
    replace hT := hT.chg hc12
    repeat' (first|refine X.O ?_|refine X.A ?_|refine X.B ?_|refine X.C ?_|refine X.D ?_|refine X.E ?_|refine X.F ?_|refine X.G ?_|refine X.H ?_|refine X.I ?_|fail)
    refine WL.step (o_loadS (by rfl) (hT.blk 0 rfl) (by rfl) ?_)
    obtain ⟨_, _, iX⟩ := hT.tab 0 rfl
    refine WL.call (NodesOf_any iX) ?_
    rintro _ w13 ⟨vN, rfl, hN13⟩
    rw [eNo] at hN13 ⊢
    replace hT := hT.next hN13.2
    have iN := hN13.ow.rd
    repeat' (first|refine X.O ?_|refine X.A ?_|refine X.B ?_|refine X.C ?_|refine X.D ?_|refine X.E ?_|refine X.F ?_|refine X.G ?_|refine X.H ?_|refine X.I ?_|fail)
    refine WL.step (o_loadS (by rfl) (hT.blk 0 rfl) (by rfl) ?_)
    refine WL.step (o_lit (us := Ints [0, 1]) (by rfl) (by rfl) rfl (by decide) Ints_one ?_)
    intro v14 w14 hown14 hbl14 hz14 _
    have iL := hown14.toIS (Nat.le_refl _)
    replace hT := hT.next hbl14
    replace iN := iN.below RI.stable hbl14 iN.1
    obtain ⟨_, _, iX⟩ := hT.tab 0 rfl
    refine WL.call (StageWeights_any iX iL) ?_
    rintro _ w15 ⟨vS, rfl, hN15⟩
    rw [eSt] at hN15 ⊢
    replace hT := hT.next hN15.2
    have iS := hN15.ow.rd
    replace iN := iN.below RI.stable hN15.2 iN.1
    have q3' := q3.below RI.stable hT.bel q3.1
    have hfin : ∀ w16, Still w15 w16 → Below w3.heap.size w3 w16 := fun w16 h16 => hby.trans (Below.mono (hT.bel.trans (h16.below _)) hby.size)
    repeat' (first|refine X.O ?_|refine X.A ?_|refine X.B ?_|refine X.C ?_|refine X.D ?_|refine X.E ?_|refine X.F ?_|refine X.G ?_|refine X.H ?_|refine X.I ?_|fail)
    refine WL.ixload (j := i) q3' ho12 ?_
    rintro p _ rfl
    repeat' (first|refine X.O ?_|refine X.A ?_|refine X.B ?_|refine X.C ?_|refine X.D ?_|refine X.E ?_|refine X.F ?_|refine X.G ?_|refine X.H ?_|refine X.I ?_|fail)
    refine WL.gsplitD (by rfl) (by rfl) (by rfl) (fun hbad => absurd rfl hbad) (fun _ => ?_)
    cases ex with
    | true =>
      obtain rfl := hde rfl
      rw [if_pos rfl] at hst
      repeat' (first|refine X.O ?_|refine X.A ?_|refine X.B ?_|refine X.C ?_|refine X.D ?_|refine X.E ?_|refine X.F ?_|refine X.G ?_|refine X.H ?_|refine X.I ?_|fail)
      refine WL.call (likeInts_rd ⟨_, _, iN⟩ ⟨_, _, iS⟩ rfl) ?_
      rintro _ w16 ⟨rfl, hs16⟩
      repeat' (first|refine X.O ?_|refine X.A ?_|refine X.B ?_|refine X.C ?_|refine X.D ?_|refine X.E ?_|refine X.F ?_|refine X.G ?_|refine X.H ?_|refine X.I ?_|fail)
      exact ⟨i + 1, ⟨rfl, rfl, rfl, X.T (by omega), X.T (by omega), trivial⟩, ⟨by omega, hfin _ hs16⟩, by omega⟩
    | false =>
      rw [if_neg Bool.false_ne_true] at hst
      repeat' (first|refine X.O ?_|refine X.A ?_|refine X.B ?_|refine X.C ?_|refine X.D ?_|refine X.E ?_|refine X.F ?_|refine X.G ?_|refine X.H ?_|refine X.I ?_|fail)
      refine WL.call (likeInts_rd ⟨_, _, iN⟩ ⟨_, _, iS⟩ rfl) ?_
      rintro _ w16 ⟨rfl, hs16⟩
      repeat' (first|refine X.O ?_|refine X.A ?_|refine X.B ?_|refine X.C ?_|refine X.D ?_|refine X.E ?_|refine X.F ?_|refine X.G ?_|refine X.H ?_|refine X.I ?_|fail)
      exact ⟨i + 1, ⟨rfl, rfl, rfl, X.T (by omega), X.T (by omega), trivial⟩, ⟨by omega, hfin _ hs16⟩, by omega⟩
  · rename_i hge
    have hie : i = 12 := by omega
    subst hie
    rw [show (expl12.take 12).count true = 6 from by rfl]
    repeat' (first|refine X.O ?_|refine X.A ?_|refine X.B ?_|refine X.C ?_|refine X.D ?_|refine X.E ?_|refine X.F ?_|refine X.G ?_|refine X.H ?_|refine X.I ?_|fail)
    refine ⟨_, ret1 rfl (by rfl), ?_⟩
    exact ⟨rfl, hyb⟩
end Go.Proofs
