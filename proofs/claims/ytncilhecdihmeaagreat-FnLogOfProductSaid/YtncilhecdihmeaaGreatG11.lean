/- The reference's action of an infinitesimal map: l08Act, ActOn. -/
import Derived.Test.YtncilhecdihmeaaGreatG5
import Derived.Test.YtncilhecdihmeaaGreatG2
set_option maxRecDepth 8000
namespace Go.Rk
open Go.Fw Go.Proofs
theorem actSum_step (b x : List Int) {rs : List RowD} {j : Nat} (h : j < rs.length) : nm (nm (actSum b x (rs.take j)) + actTerm b x rs[j]) = nm (actSum b x (rs.take (j + 1))) := by
  rw [List.take_succ_eq_append_getElem h, actSum_append, actSum, actSum, Int.add_zero]
  unfold nm
  rw [Int.emod_add_emod]
end Go.Rk
namespace Go.Proofs
open Go Go.Fw Go.RowKit Go.Rk
set_option maxHeartbeats 1000000 in
theorem l08Act_any {lc hc lb hb lx hx : Nat} {w : World} {vc vb vx : Value} {b x : List Int} (hC : TB lc hc w vc specTab) (hB : IS lb hb w vb b) (hX : IS lx hx w vx x) (hbl : b.length = 38) (hxl : x.length = 38) (hba : allN b = true) (hxa : allN x = true) :
    Does Tryz.prog 88 [vc, vb, vx] w fun r w' => NewI w r w' (actR modR cutLit b x) := by
  have hzC := hC.hi_le
  have hzB := hB.hi_le
  have hzX := hX.hi_le
  have hstl : specTab.length = 38 := by unfold specTab; rw [List.length_cons, cutLit_len]
  obtain ⟨ac, cc, hvc⟩ := hC.shape
  rw [hstl] at hvc
  subst hvc
  have hkl := actR_len b x
  have hkg := fun i h h2 => actR_get b x (i := i) h h2
  have hk0 : (actR modR cutLit b x)[0]'(by omega) = 0 := rfl
  obtain ⟨K, hK⟩ : ∃ K, actR modR cutLit b x = K := ⟨_, rfl⟩
  simp only [hK] at hkl hkg hk0 ⊢
  refine Does.enter Tryz.func88 Tryz.ntmps88 rfl (by rfl) ?_
  repeat' (first|refine X.O ?_|refine X.A ?_|refine X.B ?_|refine X.C ?_|refine X.D ?_|refine X.E ?_|refine X.F ?_|refine X.G ?_|refine X.H ?_|refine X.I ?_|fail)
  refine WL.step (o_lit (us := [.int .i64 0]) (by rfl) (by rfl) rfl (by decide) (one1 rfl) ?_)
  intro v2 w2 hown2 hbl2 hz2 _
  have hown20 : Own w.heap.size 2 w2 v2 (Ints (K.take 1)) := by rw [Ints_snocG (show 0 < K.length by omega), hk0]; exact hown2
  repeat' (first|refine X.O ?_|refine X.A ?_|refine X.B ?_|refine X.C ?_|refine X.D ?_|refine X.E ?_|refine X.F ?_|refine X.G ?_|refine X.H ?_|refine X.I ?_|fail)
  refine WP.loop (fun (s : Nat × Value) => [(0, .slice ac 38 cc), (1, vb), (2, vx), (7, s.2), (8, .int .i64 ((s.1 + 1 : Nat)))])
    (fun s w3 => s.1 ≤ 37 ∧ Own w.heap.size 2 w3 s.2 (Ints (K.take (s.1 + 1))) ∧ Below w.heap.size w w3)
    (fun s => 37 - s.1) (0, v2) ⟨rfl, rfl, rfl, rfl, rfl, trivial⟩ ⟨by dsimp only; omega, hown20, hbl2⟩ ?_
  rintro ⟨i, vo⟩ w3 ⟨hi1, hown3, hbl3⟩
  dsimp only at hi1 hown3 ⊢
  have hz3 := hbl3.size
  repeat' (first|refine X.O ?_|refine X.A ?_|refine X.B ?_|refine X.C ?_|refine X.D ?_|refine X.E ?_|refine X.F ?_|refine X.G ?_|refine X.H ?_|refine X.I ?_|fail)
  first|refine X.J (fun _ => ?_) (fun _ => ?_)|refine X.L (fun _ => ?_) (fun _ => ?_)|refine X.M (fun _ => ?_) (fun _ => ?_)|refine X.R (fun _ => ?_) (fun _ => ?_)|fail
  · rename_i hlt
    have hlc : i < cutLit.length := by rw [cutLit_len]; omega
    have hls : i + 1 < specTab.length := by rw [hstl]; omega
    have hlk : i + 1 < K.length := by omega
    have hkk := hkg i hlc hlk
    obtain ⟨hrl, hrr⟩ := cutLit_row (List.getElem_mem hlc)
    have hrow : specTab[i + 1] = cutLit[i] := rfl
    obtain ⟨rs, hrs⟩ : ∃ rs, cutLit[i] = rs := ⟨_, rfl⟩
    rw [hrs] at hrow
    simp only [hrs] at hrl hrr hkk
    repeat' (first|refine X.O ?_|refine X.A ?_|refine X.B ?_|refine X.C ?_|refine X.D ?_|refine X.E ?_|refine X.F ?_|refine X.G ?_|refine X.H ?_|refine X.I ?_|fail)
    refine WP.loop (fun (j : Nat) => [(0, .slice ac 38 cc), (1, vb), (2, vx), (7, vo), (8, .int .i64 ((i + 1 : Nat))), (9, .int .i64 (nm (actSum b x (rs.take j)))), (10, .int .i64 (j : Nat))])
      (fun j w4 => j ≤ rs.length ∧ Below w3.heap.size w3 w4)
      (fun j => rs.length - j) 0 ⟨rfl, rfl, rfl, rfl, rfl, X.T (by simp [actSum, nm]), rfl, trivial⟩ ⟨by omega, Below.refl _ _⟩ ?_
    rintro j w4 ⟨hj1, hbl4⟩
    have hz4 := hbl4.size
    have hbl04 : Below w.heap.size w w4 := hbl3.trans (Below.mono hbl4 (by omega))
    have hsb := nm_bd (actSum b x (rs.take j))
    repeat' (first|refine X.O ?_|refine X.A ?_|refine X.B ?_|refine X.C ?_|refine X.D ?_|refine X.E ?_|refine X.F ?_|refine X.G ?_|refine X.H ?_|refine X.I ?_|fail)
    refine WL.ixload (j := i + 1) (hC.below RC.stable hbl04 hzC) (List.getElem?_eq_getElem hls) ?_
    intro p1 u hu
    rw [hrow] at hu
    obtain ⟨au, cu, hvu⟩ := hu.shape
    subst hvu
    refine WL.step (o_len3 (by rfl) ?_)
    repeat' (first|refine X.O ?_|refine X.A ?_|refine X.B ?_|refine X.C ?_|refine X.D ?_|refine X.E ?_|refine X.F ?_|refine X.G ?_|refine X.H ?_|refine X.I ?_|fail)
    first|refine X.J (fun _ => ?_) (fun _ => ?_)|refine X.L (fun _ => ?_) (fun _ => ?_)|refine X.M (fun _ => ?_) (fun _ => ?_)|refine X.R (fun _ => ?_) (fun _ => ?_)|fail
    · rename_i hltj
      have hlj : j < rs.length := by omega
      have hrj := hrr _ (List.getElem_mem hlj)
      have hsn := actSum_step b x hlj
      have htb := actTerm_bd b x rs[j]
      repeat' (first|refine X.O ?_|refine X.A ?_|refine X.B ?_|refine X.C ?_|refine X.D ?_|refine X.E ?_|refine X.F ?_|refine X.G ?_|refine X.H ?_|refine X.I ?_|fail)
      refine WL.ixload (j := i + 1) (hC.below RC.stable hbl04 hzC) (List.getElem?_eq_getElem hls) ?_
      intro p2 u2 hu2
      rw [hrow] at hu2
      repeat' (first|refine X.O ?_|refine X.A ?_|refine X.B ?_|refine X.C ?_|refine X.D ?_|refine X.E ?_|refine X.F ?_|refine X.G ?_|refine X.H ?_|refine X.I ?_|fail)
      refine WL.ixloadRC (j := j) hu2 (List.getElem?_eq_getElem hlj) ?_
      intro p3 vk hvk
      obtain ⟨⟨rn, rc, rt⟩, hrE⟩ : ∃ r, rs[j] = r := ⟨_, rfl⟩
      rw [hrE] at hrj hsn htb hvk ⊢
      dsimp only at hrj hvk ⊢
      obtain ⟨ak, ck, hvke⟩ := hvk.shape
      rw [List.length_map] at hvke
      subst hvke
      refine WL.var (vs := [.int .i64 rn, .slice ak rc.length ck, .int .i64 (rt : Nat)]) (fun _ => by rfl) (by rfl) (fun y hy => by
        simp only [List.mem_cons, List.not_mem_nil, or_false] at hy
        rcases hy with rfl | rfl | rfl <;> rfl) ?_
      intro w5 hb5 hbl5 hz5
      have hvk5 := hvk.below RI.stable hbl5 (by omega)
      have hbl35 : Below w3.heap.size w3 w5 := hbl4.trans (Below.mono hbl5 (by omega))
      have hbl05 : Below w.heap.size w w5 := hbl3.trans (Below.mono hbl35 (by omega))
      repeat' (first|refine X.O ?_|refine X.A ?_|refine X.B ?_|refine X.C ?_|refine X.D ?_|refine X.E ?_|refine X.F ?_|refine X.G ?_|refine X.H ?_|refine X.I ?_|fail)
      refine WL.fld hb5 ?_
      intro q1
      repeat' (first|refine X.O ?_|refine X.A ?_|refine X.B ?_|refine X.C ?_|refine X.D ?_|refine X.E ?_|refine X.F ?_|refine X.G ?_|refine X.H ?_|refine X.I ?_|fail)
      first|refine X.J (fun _ => ?_) (fun _ => ?_)|refine X.L (fun _ => ?_) (fun _ => ?_)|refine X.M (fun _ => ?_) (fun _ => ?_)|refine X.R (fun _ => ?_) (fun _ => ?_)|fail
      · rename_i hone
        obtain ⟨k, hk⟩ : ∃ k, rc = [k] := by
          match rc, hone with
          | [k], _ => exact ⟨k, rfl⟩
          | [], h => simp at h
          | _ :: _ :: _, h => simp at h; omega
        subst hk
        have hkb := hrj.2.2.2 k (by simp)
        have hlkb : k < b.length := by omega
        have hltx : rt < x.length := by omega
        have hbb := allN_get hba hlkb
        have hxb := allN_get hxa hltx
        have hte : actTerm b x (rn, [k], rt) = nm (rn * nm (b[k] * x[rt])) := by
          show nm (rn * nm (b.getD k 0 * x.getD rt 0)) = _
          rw [List.getD_eq_getElem?_getD, List.getD_eq_getElem?_getD, List.getElem?_eq_getElem hlkb, List.getElem?_eq_getElem hltx]; rfl
        repeat' (first|refine X.O ?_|refine X.A ?_|refine X.B ?_|refine X.C ?_|refine X.D ?_|refine X.E ?_|refine X.F ?_|refine X.G ?_|refine X.H ?_|refine X.I ?_|fail)
        refine WP.drawn (fun w' => w'.heap = w5.heap) [(0, true), (1, true), (2, true), (3, true), (4, true), (5, true), (6, true), (7, true), (8, true), (9, true), (10, true), (11, true), (12, true), (13, true), (14, true), (15, false), (16, false), (17, false), (18, true)] (by kernel_rfl) mixed ?_
        intro w6 hs6
        have hw6 : w6.heap = w5.heap := hs6.heap
        have hbE : ∀ w', w'.heap = w5.heap → Blk w' w4.heap.size [.int .i64 rn, .slice ak [k].length ck, .int .i64 (rt : Nat)] 102 := fun w' h => hb5.keep (by rw [h])
        repeat' (first|refine X.U rfl ?_|refine X.V rfl ?_|refine X.W rfl ?_|refine X.Y rfl ?_|refine X.Z rfl ?_|refine WS.nil ?_|fail)
        refine WS.fld rfl rfl hbE hw6 ?_
        intro q2
        repeat' (first|refine X.U rfl ?_|refine X.V rfl ?_|refine X.W rfl ?_|refine X.Y rfl ?_|refine X.Z rfl ?_|refine WS.nil ?_|fail)
        refine WS.fld rfl rfl hbE hw6 ?_
        intro q3
        refine WS.ixload (j := 0) rfl rfl (hvk5.still RI.stable hs6) (a := (k : Int)) (by rfl) (fun w' hw' => same_heap (hw'.trans hw6.symm)) hw6 ?_
        rintro q4 _ rfl
        refine WS.ixload (j := k) rfl rfl ((hB.below RI.stable hbl05 hzB).still RI.stable hs6) (List.getElem?_eq_getElem hlkb) (fun w' hw' => same_heap (hw'.trans hw6.symm)) hw6 ?_
        rintro q5 _ rfl
        repeat' (first|refine X.U rfl ?_|refine X.V rfl ?_|refine X.W rfl ?_|refine X.Y rfl ?_|refine X.Z rfl ?_|refine WS.nil ?_|fail)
        refine WS.fld rfl rfl hbE hw6 ?_
        intro q6
        refine WS.ixload (j := rt) rfl rfl ((hX.below RI.stable hbl05 hzX).still RI.stable hs6) (List.getElem?_eq_getElem hltx) (fun w' hw' => same_heap (hw'.trans hw6.symm)) hw6 ?_
        rintro q7 _ rfl
        refine WS.call rfl (l01Mul_any _ _ _ (mul_in hbb.1 hbb.2 hxb.1 hxb.2)) ?_
        rintro _ _ ⟨rfl, rfl⟩
        refine ⟨hw6, ?_⟩
        have hn1 := nm_bd (b[k] * x[rt])
        refine WS.call rfl (l01Mul_any _ _ _ (mul_in3 (by omega) hrj.1.2 hn1.1 hn1.2)) ?_
        rintro _ _ ⟨rfl, rfl⟩
        refine ⟨hw6, ?_⟩
        have hn2 := nm_bd (rn * nm (b[k] * x[rt]))
        refine WS.call rfl (l01Add_any (nm (actSum b x (rs.take j))) (nm (rn * nm (b[k] * x[rt]))) _ (by unfold InI; omega)) ?_
        rintro _ _ ⟨rfl, rfl⟩
        refine ⟨hw6, ?_⟩
        rw [hte] at hsn
        rw [hsn]
        repeat' (first|refine X.U rfl ?_|refine X.V rfl ?_|refine X.W rfl ?_|refine X.Y rfl ?_|refine X.Z rfl ?_|refine WS.nil ?_|fail)
        repeat' (first|refine X.O ?_|refine X.A ?_|refine X.B ?_|refine X.C ?_|refine X.D ?_|refine X.E ?_|refine X.F ?_|refine X.G ?_|refine X.H ?_|refine X.I ?_|fail)
        exact ⟨j + 1, ⟨rfl, rfl, rfl, rfl, rfl, rfl, (by first|rfl|exact X.T (by omega)), trivial⟩, ⟨by omega, hbl35.trans (hs6.below _)⟩, by omega⟩
      · rename_i hone
        have hte : actTerm b x (rn, rc, rt) = 0 := by
          match rc, hone with
          | [k], h => exact absurd rfl h
          | [], _ => rfl
          | _ :: _ :: _, _ => rfl
        rw [hte, Int.add_zero, nm_nm] at hsn
        repeat' (first|refine X.O ?_|refine X.A ?_|refine X.B ?_|refine X.C ?_|refine X.D ?_|refine X.E ?_|refine X.F ?_|refine X.G ?_|refine X.H ?_|refine X.I ?_|fail)
        exact ⟨j + 1, ⟨rfl, rfl, rfl, rfl, rfl, (by rw [← hsn]; rfl), (by first|rfl|exact X.T (by omega)), trivial⟩, ⟨by omega, hbl35⟩, by omega⟩
    · rename_i hgej
      have hje : j = rs.length := by omega
      subst hje
      rw [List.take_length]
      repeat' (first|refine X.O ?_|refine X.A ?_|refine X.B ?_|refine X.C ?_|refine X.D ?_|refine X.E ?_|refine X.F ?_|refine X.G ?_|refine X.H ?_|refine X.I ?_|fail)
      refine o_append1 (u := .int .i64 (nm (actSum b x rs))) (fun _ => by rfl) (by rfl) (hown3.below hbl4 (Nat.le_refl _)) rfl (by rw [Ints_length, List.length_take]; unfold maxLen; omega) (by rw [Ints_length, List.length_take]; omega) (by omega) ?_
      intro p3 v6 w6 hown6 hbl6 _ hz6 _
      rw [← hkk, ← Ints_snocG hlk] at hown6
      repeat' (first|refine X.O ?_|refine X.A ?_|refine X.B ?_|refine X.C ?_|refine X.D ?_|refine X.E ?_|refine X.F ?_|refine X.G ?_|refine X.H ?_|refine X.I ?_|fail)
      exact ⟨(i + 1, v6), ⟨rfl, rfl, rfl, rfl, (by first|rfl|exact X.T (by omega)), trivial⟩, ⟨by dsimp only; omega, hown6, (hbl3.trans (Below.mono hbl4 (by omega))).trans hbl6⟩, by dsimp only; omega⟩
  · rename_i hge
    have hie : i = 37 := by omega
    subst hie
    rw [List.take_of_length_le (by omega)] at hown3
    repeat' (first|refine X.O ?_|refine X.A ?_|refine X.B ?_|refine X.C ?_|refine X.D ?_|refine X.E ?_|refine X.F ?_|refine X.G ?_|refine X.H ?_|refine X.I ?_|fail)
    refine ⟨_, ret1 rfl (by rfl), ?_⟩
    exact ⟨hown3, hbl3⟩
theorem sActOn_any {lb hb lx hx : Nat} {w : World} {vb vx : Value} {b x : List Int} (hB : IS lb hb w vb b) (hX : IS lx hx w vx x) :
    Does Tryz.prog 29 [vb, vx] w fun r w' => ResI w r w' (actOn b x) := by
  have hzB := hB.hi_le
  have hzX := hX.hi_le
  refine Does.enter Tryz.func29 Tryz.ntmps29 rfl (by rfl) ?_
  repeat' (first|refine X.O ?_|refine X.A ?_|refine X.B ?_|refine X.C ?_|refine X.D ?_|refine X.E ?_|refine X.F ?_|refine X.G ?_|refine X.H ?_|refine X.I ?_|fail)
  refine WL.call (l07Is_any hB) ?_
  rintro _ w1 ⟨rfl, hs1⟩
  by_cases hmb : isMap b = true
  · rw [hmb]
    repeat' (first|refine X.O ?_|refine X.A ?_|refine X.B ?_|refine X.C ?_|refine X.D ?_|refine X.E ?_|refine X.F ?_|refine X.G ?_|refine X.H ?_|refine X.I ?_|fail)
    refine WL.call (l07Is_any (hX.still RI.stable hs1)) ?_
    rintro _ w2 ⟨rfl, hs2⟩
    have hs := hs1.trans hs2
    by_cases hmx : isMap x = true
    · rw [hmx]
      have hlb := isMap_38 hmb
      have hb0 : 0 < b.length := by omega
      have hg0 : b.getD 0 0 = b[0] := by rw [List.getD_eq_getElem?_getD, List.getElem?_eq_getElem hb0]; rfl
      have hci : infCode [x, b] b = if b[0] ≠ 0 then 5 else 0 := by unfold infCode; rw [if_pos (by simp [hmx, hmb]), hg0]
      repeat' (first|refine X.O ?_|refine X.A ?_|refine X.B ?_|refine X.C ?_|refine X.D ?_|refine X.E ?_|refine X.F ?_|refine X.G ?_|refine X.H ?_|refine X.I ?_|fail)
      refine WL.ixload (j := 0) (hB.still RI.stable hs) (List.getElem?_eq_getElem hb0) ?_
      rintro p3 _ rfl
      repeat' (first|refine X.O ?_|refine X.A ?_|refine X.B ?_|refine X.C ?_|refine X.D ?_|refine X.E ?_|refine X.F ?_|refine X.G ?_|refine X.H ?_|refine X.I ?_|fail)
      first|refine X.J (fun _ => ?_) (fun _ => ?_)|refine X.L (fun _ => ?_) (fun _ => ?_)|refine X.M (fun _ => ?_) (fun _ => ?_)|refine X.R (fun _ => ?_) (fun _ => ?_)|fail
      · rename_i hne
        have hci5 : infCode [x, b] b = 5 := by rw [hci, if_pos (by simpa using hne)]
        have e : actOn b x = ([], 5) := by unfold actOn; rw [if_neg (by omega), hci5]
        repeat' (first|refine X.O ?_|refine X.A ?_|refine X.B ?_|refine X.C ?_|refine X.D ?_|refine X.E ?_|refine X.F ?_|refine X.G ?_|refine X.H ?_|refine X.I ?_|fail)
        refine ⟨_, ret2 rfl (by rfl) (by rfl), ?_⟩
        rw [e]
        exact ResI.none _ _ (hs.below _) _
      · rename_i hne
        have hci0 : infCode [x, b] b = 0 := by rw [hci, if_neg (by simpa using hne)]
        have e : actOn b x = (actR modR cutLit b x, 0) := by unfold actOn; rw [if_pos hci0]
        repeat' (first|refine X.O ?_|refine X.A ?_|refine X.B ?_|refine X.C ?_|refine X.D ?_|refine X.E ?_|refine X.F ?_|refine X.G ?_|refine X.H ?_|refine X.I ?_|fail)
        refine WL.call (l07Cuts_any _) ?_
        rintro v3 w3 ⟨hC, hbl3⟩
        have hbl03 : Below w.heap.size w w3 := (hs.below _).trans (Below.mono hbl3 (by have := hs.size; omega))
        repeat' (first|refine X.O ?_|refine X.A ?_|refine X.B ?_|refine X.C ?_|refine X.D ?_|refine X.E ?_|refine X.F ?_|refine X.G ?_|refine X.H ?_|refine X.I ?_|fail)
        refine WL.call (l08Act_any hC (hB.below RI.stable hbl03 hzB) (hX.below RI.stable hbl03 hzX) hlb (isMap_38 hmx) (isMap_all hmb) (isMap_all hmx)) ?_
        intro v4 w4 hN4
        repeat' (first|refine X.O ?_|refine X.A ?_|refine X.B ?_|refine X.C ?_|refine X.D ?_|refine X.E ?_|refine X.F ?_|refine X.G ?_|refine X.H ?_|refine X.I ?_|fail)
        refine ⟨_, ret2 rfl (by rfl) (by rfl), ?_⟩
        rw [e]
        exact ⟨v4, rfl, hN4.trans hbl03⟩
    · have hf : isMap x = false := by simpa using hmx
      have e : actOn b x = ([], 1) := by
        have : infCode [x, b] b = 1 := by unfold infCode; rw [if_neg (by simp [hf])]
        unfold actOn; rw [if_neg (by omega), this]
      rw [hf]
      repeat' (first|refine X.O ?_|refine X.A ?_|refine X.B ?_|refine X.C ?_|refine X.D ?_|refine X.E ?_|refine X.F ?_|refine X.G ?_|refine X.H ?_|refine X.I ?_|fail)
      refine ⟨_, ret2 rfl (by rfl) (by rfl), ?_⟩
      rw [e]
      exact ResI.none _ _ (hs.below _) _
  · have hf : isMap b = false := by simpa using hmb
    have e : actOn b x = ([], 1) := by
      have : infCode [x, b] b = 1 := by unfold infCode; rw [if_neg (by simp [hf])]
      unfold actOn; rw [if_neg (by omega), this]
    rw [hf]
    repeat' (first|refine X.O ?_|refine X.A ?_|refine X.B ?_|refine X.C ?_|refine X.D ?_|refine X.E ?_|refine X.F ?_|refine X.G ?_|refine X.H ?_|refine X.I ?_|fail)
    refine ⟨_, ret2 rfl (by rfl) (by rfl), ?_⟩
    rw [e]
    exact ResI.none _ _ (hs1.below _) _
end Go.Proofs
