/- Convolutions, inverses and powers of maps, the program's; Convolve of the reference. -/
import Derived.Test.YtncilhecdihmeaaGreatM3
set_option maxRecDepth 8000
namespace Go.Rk
open Go.Fw Go.Proofs
def invOk : Bool := (List.range 37).all fun i => (cutLit.getD i []).all fun r => Nat.beq r.2.2 0 || r.2.1.all fun k => Nat.blt k (i + 1)
theorem invOk_true : invOk = true := by kernel_rfl
theorem inv_crown {i : Nat} (hi : i < cutLit.length) {r : RowD} (hr : r ∈ cutLit[i]) (h0 : r.2.2 ≠ 0) : ∀ k ∈ r.2.1, k < i + 1 := fun k hk => by
  have h1 := List.all_eq_true.1 invOk_true i (List.mem_range.2 (by rw [cutLit_len] at hi; exact hi))
  rw [List.getD_eq_getElem?_getD, List.getElem?_eq_getElem hi] at h1
  have h2 := List.all_eq_true.1 h1 r hr
  rw [Bool.or_eq_true] at h2
  rcases h2 with h2 | h2
  · exact absurd (Nat.eq_of_beq_eq_true h2) h0
  · have := List.all_eq_true.1 h2 k hk
    rwa [Nat.blt_eq] at this
def inverseMap (a : List Int) : List Int × Int := if chCode a = 0 then (invL a, 0) else ([], chCode a)
theorem chCode_chr {a : List Int} (h : chCode a = 0) : Chr a := ⟨(chCode_zero h).1, (chCode_zero h).2⟩
theorem Chr.code {a : List Int} (h : Chr a) : chCode a = 0 := by unfold chCode; rw [if_pos h.map, if_neg (by rw [h.first]; simp)]
theorem inverse_ok {a : List Int} (h : Chr a) : inverseMap a = (invL a, 0) := by unfold inverseMap; rw [if_pos h.code]
theorem scale_ok {a : List Int} {k : Int} (h : isMap a = true) (hk : isN k = true) : scaleMap a k = (scaleML a k, 0) := by unfold scaleMap; rw [if_pos h, if_pos hk]
theorem scaleML_all (a : List Int) (k : Int) : allN (scaleML a k) = true := allN_of fun y hy => by
  unfold scaleML at hy
  obtain ⟨i, hi, rfl⟩ := List.getElem_of_mem hy
  rw [List.getElem_zipWith]
  exact nm_isN _
theorem scaleML_first {a : List Int} {k : Int} (h : isMap a = true) : (scaleML a k).getD 0 0 = a.getD 0 0 := by
  have hl := isMap_38 h
  have h1 := allN_get (isMap_all h) (by omega : 0 < a.length)
  rw [List.getD_eq_getElem?_getD, List.getElem?_eq_getElem (by rw [scaleML_len hl]; omega), List.getD_eq_getElem?_getD, List.getElem?_eq_getElem (by omega : 0 < a.length), Option.getD_some, Option.getD_some, scaleML_get _ (by rw [placesN_len]; omega) (by omega)]
  have e : powN k (placesN[0]'(by rw [placesN_len]; omega)).toNat = 1 := by
    have e0 : placesN[0]'(by rw [placesN_len]; omega) = 0 := rfl
    rw [e0]
    show powGo k 1 0 = 1
    rw [powGo_zero]
  rw [e, Int.mul_one]
  unfold nm; omega
theorem Chr.scale {a : List Int} {k : Int} (h : Chr a) : Chr (scaleML a k) := ⟨mapOf (scaleML_len h.len) (scaleML_all _ _), by rw [scaleML_first h.map, h.first]⟩
theorem scaleML_map {a : List Int} {k : Int} (h : isMap a = true) : isMap (scaleML a k) = true := mapOf (scaleML_len (isMap_38 h)) (scaleML_all _ _)
end Go.Rk
namespace Go.Proofs
open Go Go.Fw Go.RowKit Go.Rk
set_option maxHeartbeats 1000000 in
theorem inverseMap_any {lo hi lx hx : Nat} {w : World} {vf vx : Value} {x : List Int} (hF : FormsI lo hi w vf) (hX : IS lx hx w vx x) (hxl : x.length = 38) (hxa : allN x = true) :
    Does Tryz.prog 110 [vf, vx] w fun r w' => NewI w r w' (invL x) := by
  obtain ⟨vt, vc, rfl, _, hC⟩ := hF
  have hzC := hC.hi_le
  have hzX := hX.hi_le
  obtain ⟨ac, cc, hvc⟩ := hC.shape
  rw [cutLit_len] at hvc
  subst hvc
  have hkl := invL_len x
  have hkg := fun i h h2 => invL_get x (i := i) h h2
  have hka := invL_all x
  have hk0 : (invL x).take 1 = [1] := invL_zero x
  obtain ⟨K, hK⟩ : ∃ K, invL x = K := ⟨_, rfl⟩
  simp only [hK] at hkl hkg hk0 hka ⊢
  refine Does.enter Tryz.func110 Tryz.ntmps110 rfl (by rfl) ?_
  repeat' (first|refine X.O ?_|refine X.A ?_|refine X.B ?_|refine X.C ?_|refine X.D ?_|refine X.E ?_|refine X.F ?_|refine X.G ?_|refine X.H ?_|refine X.I ?_|fail)
  refine WL.step (o_box (by rfl) ?_)
  intro w1 hb1 hbl1 hz1
  have hb1' : Blk w1 w.heap.size [vt, .slice ac 37 cc] _ := hb1
  repeat' (first|refine X.O ?_|refine X.A ?_|refine X.B ?_|refine X.C ?_|refine X.D ?_|refine X.E ?_|refine X.F ?_|refine X.G ?_|refine X.H ?_|refine X.I ?_|fail)
  refine WL.step (o_lit (us := [.int .i64 1]) (by rfl) (by rfl) rfl (by decide) (one1 rfl) ?_)
  intro v2 w2 hown2 hbl2 hz2 _
  have hown20 : Own w1.heap.size 2 w2 v2 (Ints (K.take 1)) := by rw [hk0]; exact hown2
  repeat' (first|refine X.O ?_|refine X.A ?_|refine X.B ?_|refine X.C ?_|refine X.D ?_|refine X.E ?_|refine X.F ?_|refine X.G ?_|refine X.H ?_|refine X.I ?_|fail)
  refine WL.fld (hb1'.below hbl2 (by omega)) ?_
  intro q0
  repeat' (first|refine X.O ?_|refine X.A ?_|refine X.B ?_|refine X.C ?_|refine X.D ?_|refine X.E ?_|refine X.F ?_|refine X.G ?_|refine X.H ?_|refine X.I ?_|fail)
  refine WP.loop (fun (s : Nat × Value) => [(1, vx), (5, s.2), (13, .slice ac 37 cc), (14, .int .i64 37), (15, .int .i64 (s.1 : Nat))])
    (fun s w3 => s.1 ≤ 37 ∧ Own w1.heap.size 2 w3 s.2 (Ints (K.take (s.1 + 1))) ∧ Below w1.heap.size w1 w3)
    (fun s => 37 - s.1) (0, v2) ⟨rfl, rfl, rfl, rfl, rfl, trivial⟩ ⟨by dsimp only; omega, hown20, hbl2⟩ ?_
  rintro ⟨i, vo⟩ w3 ⟨hi1, hown3, hbl3⟩
  dsimp only at hi1 hown3 ⊢
  have hz3 := hbl3.size
  have hbl03 : Below w.heap.size w w3 := hbl1.trans (Below.mono hbl3 (by omega))
  repeat' (first|refine X.O ?_|refine X.A ?_|refine X.B ?_|refine X.C ?_|refine X.D ?_|refine X.E ?_|refine X.F ?_|refine X.G ?_|refine X.H ?_|refine X.I ?_|fail)
  first|refine X.J (fun _ => ?_) (fun _ => ?_)|refine X.L (fun _ => ?_) (fun _ => ?_)|refine X.M (fun _ => ?_) (fun _ => ?_)|refine X.R (fun _ => ?_) (fun _ => ?_)|fail
  · rename_i hlt
    have hlc : i < cutLit.length := by rw [cutLit_len]; omega
    have hlk : i + 1 < K.length := by omega
    have hkk := hkg i hlc hlk
    obtain ⟨hrl, hrr⟩ := cutLit_row (List.getElem_mem hlc)
    have hcr := fun r hr h0 => inv_crown hlc (r := r) hr h0
    obtain ⟨O, hO⟩ : ∃ O, K.take (i + 1) = O := ⟨_, rfl⟩
    have hOl : O.length = i + 1 := by rw [← hO, List.length_take]; omega
    have hOa : allN O = true := by rw [← hO]; exact allN_take hka _
    rw [hO] at hkk hown3
    repeat' (first|refine X.O ?_|refine X.A ?_|refine X.B ?_|refine X.C ?_|refine X.D ?_|refine X.E ?_|refine X.F ?_|refine X.G ?_|refine X.H ?_|refine X.I ?_|fail)
    refine WL.ixload (j := i) (hC.below RC.stable hbl03 hzC) (List.getElem?_eq_getElem hlc) ?_
    intro p1 u hu
    obtain ⟨rs, hrs⟩ : ∃ rs, cutLit[i] = rs := ⟨_, rfl⟩
    simp only [hrs] at hrl hrr hkk hu hcr
    obtain ⟨au, cu, hvu⟩ := hu.shape
    subst hvu
    have hX3 := hX.below RI.stable hbl03 hzX
    repeat' (first|refine X.O ?_|refine X.A ?_|refine X.B ?_|refine X.C ?_|refine X.D ?_|refine X.E ?_|refine X.F ?_|refine X.G ?_|refine X.H ?_|refine X.I ?_|fail)
    refine WL.step (o_len3 (by rfl) ?_)
    repeat' (first|refine X.O ?_|refine X.A ?_|refine X.B ?_|refine X.C ?_|refine X.D ?_|refine X.E ?_|refine X.F ?_|refine X.G ?_|refine X.H ?_|refine X.I ?_|fail)
    refine WP.loop (fun (j : Nat) => [(1, vx), (5, vo), (8, .int .i64 (invSum O x (rs.take j))), (13, .slice ac 37 cc), (14, .int .i64 37), (15, .int .i64 (i : Nat)), (19, .slice au rs.length cu), (20, .int .i64 (rs.length : Nat)), (21, .int .i64 (j : Nat))])
      (fun j w4 => j ≤ rs.length ∧ Below w3.heap.size w3 w4)
      (fun j => rs.length - j) 0 ⟨rfl, rfl, rfl, rfl, rfl, rfl, rfl, rfl, rfl, trivial⟩ ⟨by omega, Below.refl _ _⟩ ?_
    rintro j w4 ⟨hj1, hbl4⟩
    have hz4 := hbl4.size
    have hsb := invSum_bd O x (rs.take j)
    have hstl : (rs.take j).length ≤ 15 := by rw [List.length_take]; omega
    repeat' (first|refine X.O ?_|refine X.A ?_|refine X.B ?_|refine X.C ?_|refine X.D ?_|refine X.E ?_|refine X.F ?_|refine X.G ?_|refine X.H ?_|refine X.I ?_|fail)
    first|refine X.J (fun _ => ?_) (fun _ => ?_)|refine X.L (fun _ => ?_) (fun _ => ?_)|refine X.M (fun _ => ?_) (fun _ => ?_)|refine X.R (fun _ => ?_) (fun _ => ?_)|fail
    · rename_i hltj
      have hlj : j < rs.length := by omega
      have hrj := hrr _ (List.getElem_mem hlj)
      have hcj := hcr _ (List.getElem_mem hlj)
      have hsn : invSum O x (rs.take (j + 1)) = invSum O x (rs.take j) + invTerm O x rs[j] := by rw [List.take_succ_eq_append_getElem hlj, invSum_append]; simp [invSum]
      have htb := invTerm_bd O x rs[j]
      repeat' (first|refine X.O ?_|refine X.A ?_|refine X.B ?_|refine X.C ?_|refine X.D ?_|refine X.E ?_|refine X.F ?_|refine X.G ?_|refine X.H ?_|refine X.I ?_|fail)
      refine WL.ixloadRC (j := j) ((RC.stable).1 _ _ _ _ _ _ (Same.of_below hbl4 (by omega)) (by omega) hu) (List.getElem?_eq_getElem hlj) ?_
      intro p2 vk hvk
      obtain ⟨⟨rn, rc, rt⟩, hrE⟩ : ∃ r, rs[j] = r := ⟨_, rfl⟩
      rw [hrE] at hrj hsn htb hvk hcj ⊢
      dsimp only at hrj hvk hcj ⊢
      obtain ⟨ak, ck, hvke⟩ := hvk.shape
      rw [List.length_map] at hvke
      subst hvke
      refine WL.var (vs := [.int .i64 rn, .slice ak rc.length ck, .int .i64 (rt : Nat)]) (fun _ => by rfl) (by rfl) (fun y hy => by
        simp only [List.mem_cons, List.not_mem_nil, or_false] at hy
        rcases hy with rfl | rfl | rfl <;> rfl) ?_
      intro w5 hb5 hbl5 hz5
      have hb5' : Blk w5 w4.heap.size [.int .i64 rn, .slice ak rc.length ck, .int .i64 (rt : Nat)] 94 := hb5
      have hvk5 := hvk.below RI.stable hbl5 (by omega)
      have hbl35 : Below w3.heap.size w3 w5 := hbl4.trans (Below.mono hbl5 (by omega))
      have hO5 := hown3.below hbl35 (Nat.le_refl _)
      have hX5 := hX3.below RI.stable hbl35 (by omega)
      repeat' (first|refine X.O ?_|refine X.A ?_|refine X.B ?_|refine X.C ?_|refine X.D ?_|refine X.E ?_|refine X.F ?_|refine X.G ?_|refine X.H ?_|refine X.I ?_|fail)
      refine WL.fld hb5' ?_
      intro q9
      repeat' (first|refine X.O ?_|refine X.A ?_|refine X.B ?_|refine X.C ?_|refine X.D ?_|refine X.E ?_|refine X.F ?_|refine X.G ?_|refine X.H ?_|refine X.I ?_|fail)
      first|refine X.J (fun _ => ?_) (fun _ => ?_)|refine X.L (fun _ => ?_) (fun _ => ?_)|refine X.M (fun _ => ?_) (fun _ => ?_)|refine X.R (fun _ => ?_) (fun _ => ?_)|fail
      · rename_i hpos
        have hrt : rt ≠ 0 := by omega
        have hltx : rt < x.length := by omega
        have hxb := allN_get hxa hltx
        have hpb := prodR_isN O rc
        have hte : invTerm O x (rn, rc, rt) = nm (rn * nm (prodR modR O rc * x[rt])) := by
          unfold invTerm
          rw [if_neg hrt]
          show nm (rn * nm (prodR modR O rc * x.getD rt 0)) = _
          rw [List.getD_eq_getElem?_getD, List.getElem?_eq_getElem hltx]; rfl
        repeat' (first|refine X.O ?_|refine X.A ?_|refine X.B ?_|refine X.C ?_|refine X.D ?_|refine X.E ?_|refine X.F ?_|refine X.G ?_|refine X.H ?_|refine X.I ?_|fail)
        refine WP.drawn (fun w' => w'.heap = w5.heap) [(0, true), (1, true), (2, true), (3, true), (4, true), (5, true), (7, true), (8, true), (9, true), (10, true), (11, true), (6, false), (12, true), (13, false), (14, true), (15, false), (16, true), (17, true)] (by kernel_rfl) mixed ?_
        intro w6 hs6
        have hw6 : w6.heap = w5.heap := hs6.heap
        have hbE : ∀ w', w'.heap = w5.heap → Blk w' w4.heap.size [.int .i64 rn, .slice ak rc.length ck, .int .i64 (rt : Nat)] 94 := fun w' h => hb5.keep (by rw [h])
        repeat' (first|refine X.U rfl ?_|refine X.V rfl ?_|refine X.W rfl ?_|refine X.Y rfl ?_|refine X.Z rfl ?_|refine WS.nil ?_|fail)
        refine WS.fld rfl rfl hbE hw6 ?_
        intro q2
        repeat' (first|refine X.U rfl ?_|refine X.V rfl ?_|refine X.W rfl ?_|refine X.Y rfl ?_|refine X.Z rfl ?_|refine WS.nil ?_|fail)
        refine WS.fld rfl rfl hbE hw6 ?_
        intro q3
        repeat' (first|refine X.U rfl ?_|refine X.V rfl ?_|refine X.W rfl ?_|refine X.Y rfl ?_|refine X.Z rfl ?_|refine WS.nil ?_|fail)
        refine WS.fld rfl rfl hbE hw6 ?_
        intro q6
        refine WS.ixload (j := rt) rfl rfl (hX5.still RI.stable hs6) (List.getElem?_eq_getElem hltx) (fun w' hw' => same_heap (hw'.trans hw6.symm)) hw6 ?_
        rintro q7 _ rfl
        refine WS.call rfl (valueOf_any ((hO5.toIS (Nat.le_refl _)).still RI.stable hs6) (hvk5.still RI.stable hs6) hOa (fun k hk => by have := hcj hrt k hk; omega) hrj.2.2.1) ?_
        rintro _ w7 ⟨rfl, hs7⟩
        have hw7 : w7.heap = w5.heap := hs7.heap.trans hw6
        have hs67 := hs6.trans hs7
        refine ⟨hw7, ?_⟩
        refine WS.q rfl (q_mul (by rfl) (by rfl) (mul_in hpb.1 hpb.2 hxb.1 hxb.2)) hw7 ?_
        refine WS.call rfl (num_any _ _) ?_
        rintro _ _ ⟨rfl, rfl⟩
        refine ⟨hw7, ?_⟩
        have hn1 := nm_bd (prodR modR O rc * x[rt])
        refine WS.q rfl (q_mul (by rfl) (by rfl) (mul_in3 (by omega) hrj.1.2 hn1.1 hn1.2)) hw7 ?_
        refine WS.call rfl (num_any _ _) ?_
        rintro _ _ ⟨rfl, rfl⟩
        refine ⟨hw7, ?_⟩
        have hn2 := nm_bd (rn * nm (prodR modR O rc * x[rt]))
        repeat' (first|refine X.U rfl ?_|refine X.V rfl ?_|refine X.W rfl ?_|refine X.Y rfl ?_|refine X.Z rfl ?_|refine WS.nil ?_|fail)
        rw [hte] at hsn
        repeat' (first|refine X.O ?_|refine X.A ?_|refine X.B ?_|refine X.C ?_|refine X.D ?_|refine X.E ?_|refine X.F ?_|refine X.G ?_|refine X.H ?_|refine X.I ?_|fail)
        exact ⟨j + 1, ⟨rfl, rfl, (by rw [hsn]; rfl), rfl, rfl, rfl, rfl, rfl, (by first|rfl|exact X.T (by omega)), trivial⟩, ⟨by omega, hbl35.trans (hs67.below _)⟩, by omega⟩
      · rename_i hpos
        have hte : invTerm O x (rn, rc, rt) = 0 := by unfold invTerm; rw [if_pos (show rt = 0 by omega)]
        rw [hte, Int.add_zero] at hsn
        repeat' (first|refine X.O ?_|refine X.A ?_|refine X.B ?_|refine X.C ?_|refine X.D ?_|refine X.E ?_|refine X.F ?_|refine X.G ?_|refine X.H ?_|refine X.I ?_|fail)
        exact ⟨j + 1, ⟨rfl, rfl, (by rw [hsn]; rfl), rfl, rfl, rfl, rfl, rfl, (by first|rfl|exact X.T (by omega)), trivial⟩, ⟨by omega, hbl35⟩, by omega⟩
    · rename_i hgej
      have hje : j = rs.length := by omega
      subst hje
      rw [List.take_length] at hsb ⊢
      repeat' (first|refine X.O ?_|refine X.A ?_|refine X.B ?_|refine X.C ?_|refine X.D ?_|refine X.E ?_|refine X.F ?_|refine X.G ?_|refine X.H ?_|refine X.I ?_|fail)
      refine WL.step (o_neg (by rfl) (by unfold InI; omega) ?_)
      refine WL.call (num_any _ _) ?_
      rintro _ _ ⟨rfl, rfl⟩
      refine o_append1 (u := .int .i64 (nm (-(invSum O x rs)))) (fun _ => by rfl) (by rfl) (hown3.below hbl4 (Nat.le_refl _)) rfl (by rw [Ints_length]; unfold maxLen; omega) (by rw [Ints_length]; omega) (by omega) ?_
      intro p3 v6 w6 hown6 hbl6 _ hz6 _
      rw [← hkk, ← hO, ← Ints_snocG hlk] at hown6
      repeat' (first|refine X.O ?_|refine X.A ?_|refine X.B ?_|refine X.C ?_|refine X.D ?_|refine X.E ?_|refine X.F ?_|refine X.G ?_|refine X.H ?_|refine X.I ?_|fail)
      exact ⟨(i + 1, v6), ⟨rfl, rfl, rfl, rfl, (by first|rfl|exact X.T (by omega)), trivial⟩, ⟨by dsimp only; omega, hown6, (hbl3.trans (Below.mono hbl4 (by omega))).trans hbl6⟩, by dsimp only; omega⟩
  · rename_i hge
    have hie : i = 37 := by omega
    subst hie
    rw [List.take_of_length_le (by omega)] at hown3
    repeat' (first|refine X.O ?_|refine X.A ?_|refine X.B ?_|refine X.C ?_|refine X.D ?_|refine X.E ?_|refine X.F ?_|refine X.G ?_|refine X.H ?_|refine X.I ?_|fail)
    refine ⟨_, ret1 rfl (by rfl), ?_⟩
    exact ⟨hown3.lower (by omega), hbl03⟩
theorem InverseMap_any {lo hi : Nat} {w : World} {v : Value} {a : List Int} (h : IS lo hi w v a) :
    Does Tryz.prog 52 [v] w fun r w' => ResI w r w' (inverseMap a) := by
  have hz := h.hi_le
  refine Does.enter Tryz.func52 Tryz.ntmps52 rfl (by rfl) ?_
  repeat' (first|refine X.O ?_|refine X.A ?_|refine X.B ?_|refine X.C ?_|refine X.D ?_|refine X.E ?_|refine X.F ?_|refine X.G ?_|refine X.H ?_|refine X.I ?_|fail)
  refine WL.call (checkCharacter_any h) ?_
  rintro _ w1 ⟨rfl, hs1⟩
  have hz1 := hs1.size
  by_cases hc : chCode a = 0
  · have hch := chCode_chr hc
    rw [hc, inverse_ok hch]
    repeat' (first|refine X.O ?_|refine X.A ?_|refine X.B ?_|refine X.C ?_|refine X.D ?_|refine X.E ?_|refine X.F ?_|refine X.G ?_|refine X.H ?_|refine X.I ?_|fail)
    try (refine WP.condD (by rfl) (fun hbad => False.elim (by first | exact hbad rfl | omega)) (fun _ => ?_))
    repeat' (first|refine X.O ?_|refine X.A ?_|refine X.B ?_|refine X.C ?_|refine X.D ?_|refine X.E ?_|refine X.F ?_|refine X.G ?_|refine X.H ?_|refine X.I ?_|fail)
    refine WL.call (newForms_any _) ?_
    rintro v3 w3 ⟨hF, hbl3⟩
    have hbl03 : Below w.heap.size w w3 := (hs1.below _).trans (Below.mono hbl3 (by omega))
    repeat' (first|refine X.O ?_|refine X.A ?_|refine X.B ?_|refine X.C ?_|refine X.D ?_|refine X.E ?_|refine X.F ?_|refine X.G ?_|refine X.H ?_|refine X.I ?_|fail)
    refine WL.call (inverseMap_any hF (h.below RI.stable hbl03 hz) hch.len (isMap_all hch.map)) ?_
    intro v4 w4 hN4
    repeat' (first|refine X.O ?_|refine X.A ?_|refine X.B ?_|refine X.C ?_|refine X.D ?_|refine X.E ?_|refine X.F ?_|refine X.G ?_|refine X.H ?_|refine X.I ?_|fail)
    refine ⟨_, ret2 rfl (by rfl) (by rfl), ?_⟩
    exact ⟨v4, rfl, hN4.trans hbl03⟩
  · have e : inverseMap a = ([], chCode a) := by unfold inverseMap; rw [if_neg hc]
    rw [e]
    repeat' (first|refine X.O ?_|refine X.A ?_|refine X.B ?_|refine X.C ?_|refine X.D ?_|refine X.E ?_|refine X.F ?_|refine X.G ?_|refine X.H ?_|refine X.I ?_|fail)
    first|refine X.J (fun _ => ?_) (fun _ => ?_)|refine X.L (fun _ => ?_) (fun _ => ?_)|refine X.M (fun _ => ?_) (fun _ => ?_)|refine X.R (fun _ => ?_) (fun _ => ?_)|fail
    · repeat' (first|refine X.O ?_|refine X.A ?_|refine X.B ?_|refine X.C ?_|refine X.D ?_|refine X.E ?_|refine X.F ?_|refine X.G ?_|refine X.H ?_|refine X.I ?_|fail)
      refine ⟨_, ret2 rfl (by rfl) (by rfl), ?_⟩
      exact ResI.none _ _ (hs1.below _) _
    · rename_i hbad
      exact absurd (by simpa using hbad) hc
theorem sConvolve_any {la ha lb hb : Nat} {w : World} {va vb : Value} {a b : List Int} (hA : IS la ha w va a) (hB : IS lb hb w vb b) :
    Does Tryz.prog 47 [va, vb] w fun r w' => ResI w r w' (convMap a b) := by
  have hzA := hA.hi_le
  have hzB := hB.hi_le
  refine Does.enter Tryz.func47 Tryz.ntmps47 rfl (by rfl) ?_
  repeat' (first|refine X.O ?_|refine X.A ?_|refine X.B ?_|refine X.C ?_|refine X.D ?_|refine X.E ?_|refine X.F ?_|refine X.G ?_|refine X.H ?_|refine X.I ?_|fail)
  refine WL.call (l07Code_any hA hB) ?_
  rintro _ w1 ⟨rfl, hs1⟩
  have hz1 := hs1.size
  by_cases hc : chTwo a b = 0
  · obtain ⟨hch, hb⟩ := chTwo_zero hc
    have hl := hch.len
    rw [hc, conv_ok hch hb]
    repeat' (first|refine X.O ?_|refine X.A ?_|refine X.B ?_|refine X.C ?_|refine X.D ?_|refine X.E ?_|refine X.F ?_|refine X.G ?_|refine X.H ?_|refine X.I ?_|fail)
    try (refine WP.condD (by rfl) (fun hbad => False.elim (by first | exact hbad rfl | omega)) (fun _ => ?_))
    repeat' (first|refine X.O ?_|refine X.A ?_|refine X.B ?_|refine X.C ?_|refine X.D ?_|refine X.E ?_|refine X.F ?_|refine X.G ?_|refine X.H ?_|refine X.I ?_|fail)
    refine WL.call (l07Cuts_any _) ?_
    rintro v3 w3 ⟨hC, hbl3⟩
    have hbl03 : Below w.heap.size w w3 := (hs1.below _).trans (Below.mono hbl3 (by omega))
    repeat' (first|refine X.O ?_|refine X.A ?_|refine X.B ?_|refine X.C ?_|refine X.D ?_|refine X.E ?_|refine X.F ?_|refine X.G ?_|refine X.H ?_|refine X.I ?_|fail)
    refine WL.call (l07Conv_any hC (hA.below RI.stable hbl03 hzA) (hB.below RI.stable hbl03 hzB) hl (isMap_38 hb) (isMap_all hch.map) (isMap_all hb) (by rw [← getD_get (by omega)]; exact hch.first)) ?_
    intro v4 w4 hN4
    repeat' (first|refine X.O ?_|refine X.A ?_|refine X.B ?_|refine X.C ?_|refine X.D ?_|refine X.E ?_|refine X.F ?_|refine X.G ?_|refine X.H ?_|refine X.I ?_|fail)
    refine ⟨_, ret2 rfl (by rfl) (by rfl), ?_⟩
    exact ⟨v4, rfl, hN4.trans hbl03⟩
  · have e : convMap a b = ([], chTwo a b) := by unfold convMap; rw [if_neg hc]
    rw [e]
    repeat' (first|refine X.O ?_|refine X.A ?_|refine X.B ?_|refine X.C ?_|refine X.D ?_|refine X.E ?_|refine X.F ?_|refine X.G ?_|refine X.H ?_|refine X.I ?_|fail)
    first|refine X.J (fun _ => ?_) (fun _ => ?_)|refine X.L (fun _ => ?_) (fun _ => ?_)|refine X.M (fun _ => ?_) (fun _ => ?_)|refine X.R (fun _ => ?_) (fun _ => ?_)|fail
    · repeat' (first|refine X.O ?_|refine X.A ?_|refine X.B ?_|refine X.C ?_|refine X.D ?_|refine X.E ?_|refine X.F ?_|refine X.G ?_|refine X.H ?_|refine X.I ?_|fail)
      refine ⟨_, ret2 rfl (by rfl) (by rfl), ?_⟩
      exact ResI.none _ _ (hs1.below _) _
    · rename_i hbad
      exact absurd (by simpa using hbad) hc
theorem IsCharacter_any {lo hi : Nat} {w : World} {v : Value} {a : List Int} (h : IS lo hi w v a) (hc : Chr a) : Does Tryz.prog 58 [v] w fun r w' => r = .bool true ∧ Still w w' := by
  have hl := hc.len
  refine Does.enter Tryz.func58 Tryz.ntmps58 rfl (by rfl) ?_
  repeat' (first|refine X.O ?_|refine X.A ?_|refine X.B ?_|refine X.C ?_|refine X.D ?_|refine X.E ?_|refine X.F ?_|refine X.G ?_|refine X.H ?_|refine X.I ?_|fail)
  refine WL.call (IsMap_any h) ?_
  rintro _ w1 ⟨rfl, hs1⟩
  rw [hc.map]
  have hg := getD_get (a := a) (by omega)
  rw [hc.first] at hg
  repeat' (first|refine X.O ?_|refine X.A ?_|refine X.B ?_|refine X.C ?_|refine X.D ?_|refine X.E ?_|refine X.F ?_|refine X.G ?_|refine X.H ?_|refine X.I ?_|fail)
  refine WL.ixload (j := 0) (h.still RI.stable hs1) (List.getElem?_eq_getElem (by omega)) ?_
  rintro p _ rfl
  repeat' (first|refine X.O ?_|refine X.A ?_|refine X.B ?_|refine X.C ?_|refine X.D ?_|refine X.E ?_|refine X.F ?_|refine X.G ?_|refine X.H ?_|refine X.I ?_|fail)
  refine ⟨_, ret1 rfl (by rfl), ?_⟩
  exact ⟨by rw [← hg]; rfl, hs1⟩
end Go.Proofs
/- Drawn maps: DrawConvolve; the laws' conv9 and others over lists at hand. -/
set_option maxRecDepth 8000
namespace Go.Proofs
open Go Go.Fw Go.RowKit Go.Rk
theorem DrawConvolve_any {lo hi : Nat} {w : World} {v : Value} {bs : List Int} (h : IU lo hi w v bs) (hn : bs.length ≤ 4096) :
    Does Tryz.prog 45 [v] w fun r w' => (∃ v5 v6 xs ys, r = .tuple #[v5, v6] ∧ IS w.heap.size w'.heap.size w' v5 xs ∧ IS w.heap.size w'.heap.size w' v6 ys) ∧ Below w.heap.size w w' := by
  refine Does.enter Tryz.func45 Tryz.ntmps45 rfl (by rfl) ?_
  repeat' (first|refine X.O ?_|refine X.A ?_|refine X.B ?_|refine X.C ?_|refine X.D ?_|refine X.E ?_|refine X.F ?_|refine X.G ?_|refine X.H ?_|refine X.I ?_|fail)
  refine WL.call (l01From_any h hn) ?_
  rintro _ w1 ⟨rfl, hsrc1, hc1⟩
  have hz1 := hc1.size
  have hlt1 := hsrc1.lt
  have hbl1 : Below w.heap.size w w1 := hc1.below (by omega) (Or.inr (Nat.le_refl _))
  obtain ⟨sb, hsb⟩ : ∃ sb, w.heap.size = sb := ⟨_, rfl⟩
  rw [hsb] at hsrc1 hlt1 ⊢
  have fin : ∀ wz, Drew sb w1 wz → Below sb w wz := fun wz hd => by
    rw [hsb] at hbl1
    exact hbl1.trans (hd.chg.below (by omega) (Or.inl (Nat.le_refl _)))
  repeat' (first|refine X.O ?_|refine X.A ?_|refine X.B ?_|refine X.C ?_|refine X.D ?_|refine X.E ?_|refine X.F ?_|refine X.G ?_|refine X.H ?_|refine X.I ?_|fail)
  refine WL.call (l07DrawAny_own hsrc1) ?_
  rintro v5 w2 ⟨⟨xs, hx⟩, hd2⟩
  have hz2 := hd2.chg.size
  repeat' (first|refine X.O ?_|refine X.A ?_|refine X.B ?_|refine X.C ?_|refine X.D ?_|refine X.E ?_|refine X.F ?_|refine X.G ?_|refine X.H ?_|refine X.I ?_|fail)
  refine WL.call (l07DrawAny_own hd2.src) ?_
  rintro v6 w3 ⟨⟨ys, hy⟩, hd3⟩
  have hz3 := hd3.chg.size
  have hx3 := (hx.drew hd3 hlt1).toIS (lo' := sb) (by omega)
  have hx2 := hx.toIS (lo' := w1.heap.size) (Nat.le_refl _)
  have hx3' := RI.chg hx2 hd3.chg (Or.inr (by omega))
  have hd13 := hd2.trans hd3
  repeat' (first|refine X.O ?_|refine X.A ?_|refine X.B ?_|refine X.C ?_|refine X.D ?_|refine X.E ?_|refine X.F ?_|refine X.G ?_|refine X.H ?_|refine X.I ?_|fail)
  refine WL.call (l01Next_any hd13.src 4 (by omega)) ?_
  rintro _ w4 ⟨⟨c, rfl, _, _⟩, hd4⟩
  have hz4 := hd4.chg.size
  have hx4 := RI.chg hx3' hd4.chg (Or.inr (by omega))
  have hy4 := hy.drew hd4 (by omega)
  have hd14 := hd13.trans hd4
  repeat' (first|refine X.O ?_|refine X.A ?_|refine X.B ?_|refine X.C ?_|refine X.D ?_|refine X.E ?_|refine X.F ?_|refine X.G ?_|refine X.H ?_|refine X.I ?_|fail)
  first|refine X.J (fun _ => ?_) (fun _ => ?_)|refine X.L (fun _ => ?_) (fun _ => ?_)|refine X.M (fun _ => ?_) (fun _ => ?_)|refine X.R (fun _ => ?_) (fun _ => ?_)|fail
  · repeat' (first|refine X.O ?_|refine X.A ?_|refine X.B ?_|refine X.C ?_|refine X.D ?_|refine X.E ?_|refine X.F ?_|refine X.G ?_|refine X.H ?_|refine X.I ?_|fail)
    refine WL.call (l01Number_any hd14.src) ?_
    rintro _ w5 ⟨⟨k, rfl, _, _⟩, hd5⟩
    have hz5 := hd5.chg.size
    have hx5 := RI.chg hx4 hd5.chg (Or.inr (by omega))
    have hy5 := hy4.drew hd5 (by omega)
    have hd15 := hd14.trans hd5
    repeat' (first|refine X.O ?_|refine X.A ?_|refine X.B ?_|refine X.C ?_|refine X.D ?_|refine X.E ?_|refine X.F ?_|refine X.G ?_|refine X.H ?_|refine X.I ?_|fail)
    refine WL.ixstoreD (z0 := k) hy5 ?_
    intro p w6 hy6 hbl6 hz6 _
    have hx6 := hx5.below RI.stable hbl6 (by omega)
    repeat' (first|refine X.O ?_|refine X.A ?_|refine X.B ?_|refine X.C ?_|refine X.D ?_|refine X.E ?_|refine X.F ?_|refine X.G ?_|refine X.H ?_|refine X.I ?_|fail)
    refine ⟨_, ret2 rfl (by rfl) (by rfl), ?_⟩
    exact ⟨⟨_, _, _, _, rfl, hx6.wide RI.stable (by omega) (by omega) (Nat.le_refl _), hy6.toIS (by omega)⟩, fin _ (hd15.into hbl6 (by omega) (by omega))⟩
  · repeat' (first|refine X.O ?_|refine X.A ?_|refine X.B ?_|refine X.C ?_|refine X.D ?_|refine X.E ?_|refine X.F ?_|refine X.G ?_|refine X.H ?_|refine X.I ?_|fail)
    refine ⟨_, ret2 rfl (by rfl) (by rfl), ?_⟩
    exact ⟨⟨_, _, _, _, rfl, hx4.wide RI.stable (by omega) (by omega) (Nat.le_refl _), hy4.toIS (by omega)⟩, fin _ hd14⟩
theorem ScaleMap_rd {w : World} {va : Value} {a : List Int} {k : Int} (hA : RD w va a) (ha : isMap a = true) (hk : isN k = true) : Does Tryz.prog 55 [va, .int .i64 k] w fun r w' => ∃ v, r = .tuple #[v, .int .i64 0] ∧ NewI w v w' (scaleML a k) := by
  obtain ⟨_, _, hA⟩ := hA
  have := ScaleMap_any hA k
  rwa [scale_ok ha hk] at this
theorem InverseMap_rd {w : World} {va : Value} {a : List Int} (hA : RD w va a) (ha : Chr a) : Does Tryz.prog 52 [va] w fun r w' => ∃ v, r = .tuple #[v, .int .i64 0] ∧ NewI w v w' (invL a) := by
  obtain ⟨_, _, hA⟩ := hA
  have := InverseMap_any hA
  rwa [inverse_ok ha] at this
theorem IsCharacter_rd {w : World} {va : Value} {a : List Int} (hA : RD w va a) (ha : Chr a) : Does Tryz.prog 58 [va] w fun r w' => r = .bool true ∧ Still w w' := by
  obtain ⟨_, _, hA⟩ := hA; exact IsCharacter_any hA ha
end Go.Proofs
/- Powers of maps, the program's. -/
set_option maxRecDepth 8000
namespace Go.Proofs
open Go Go.Fw Go.RowKit Go.Rk
set_option maxHeartbeats 1000000 in
theorem PowerOfMap_any {lo hi : Nat} {w : World} {v : Value} {a : List Int} (h : IS lo hi w v a) (ha : Chr a) {k : Int} (h1 : -100 ≤ k) (h2 : k ≤ 100) :
    Does Tryz.prog 62 [v, .int .i64 k] w fun r w' => ∃ v', r = .tuple #[v', .int .i64 0] ∧ NewI w v' w' (powZ a k) := by
  have hz := h.hi_le
  have hl := ha.len
  refine Does.enter Tryz.func62 Tryz.ntmps62 rfl (by rfl) ?_
  repeat' (first|refine X.O ?_|refine X.A ?_|refine X.B ?_|refine X.C ?_|refine X.D ?_|refine X.E ?_|refine X.F ?_|refine X.G ?_|refine X.H ?_|refine X.I ?_|fail)
  refine WL.call (IsMap_any h) ?_
  rintro _ w1 ⟨rfl, hs1⟩
  rw [ha.map]
  repeat' (first|refine X.O ?_|refine X.A ?_|refine X.B ?_|refine X.C ?_|refine X.D ?_|refine X.E ?_|refine X.F ?_|refine X.G ?_|refine X.H ?_|refine X.I ?_|fail)
  refine WL.call (inRange_any _ _ _ _) ?_
  rintro _ w2 ⟨rfl, hs2⟩
  rw [decide_eq_true (⟨h1, h2⟩ : -100 ≤ k ∧ k ≤ 100)]
  have hs12 := hs1.trans hs2
  have hz2 := hs12.size
  repeat' (first|refine X.O ?_|refine X.A ?_|refine X.B ?_|refine X.C ?_|refine X.D ?_|refine X.E ?_|refine X.F ?_|refine X.G ?_|refine X.H ?_|refine X.I ?_|fail)
  refine WL.ixload (j := 0) (h.still RI.stable hs12) (List.getElem?_eq_getElem (by omega)) ?_
  rintro p _ rfl
  have hg := getD_get (a := a) (by omega)
  rw [ha.first] at hg
  repeat' (first|refine X.O ?_|refine X.A ?_|refine X.B ?_|refine X.C ?_|refine X.D ?_|refine X.E ?_|refine X.F ?_|refine X.G ?_|refine X.H ?_|refine X.I ?_|fail)
  refine WP.condD (by rfl) (fun (hbad : a[0] ≠ 1) => False.elim (hbad hg.symm)) (fun _ => ?_)
  repeat' (first|refine X.O ?_|refine X.A ?_|refine X.B ?_|refine X.C ?_|refine X.D ?_|refine X.E ?_|refine X.F ?_|refine X.G ?_|refine X.H ?_|refine X.I ?_|fail)
  refine WL.call (newForms_any _) ?_
  rintro vf w3 ⟨hF, hbl3⟩
  have hbl03 : Below w.heap.size w w3 := (hs12.below _).trans (Below.mono hbl3 (by omega))
  have hz03 := hbl03.size
  repeat' (first|refine X.O ?_|refine X.A ?_|refine X.B ?_|refine X.C ?_|refine X.D ?_|refine X.E ?_|refine X.F ?_|refine X.G ?_|refine X.H ?_|refine X.I ?_|fail)
  refine WL.call (UnitMap_any _) ?_
  intro vu w4 hN4
  have hz4 := hN4.2.size
  have hF4 := hF.below hN4.2 (Nat.le_refl _)
  have hF0 := hF
  obtain ⟨vt, vt2, rfl, _, _⟩ := hF0
  refine WL.var (vs := [vt, vt2]) (fun _ => by rfl) (by rfl) hF.slices ?_
  intro w5 hb5 hbl5 hz5
  have hbl05 : Below w.heap.size w w5 := (hbl03.trans (Below.mono hN4.2 (by omega))).trans (Below.mono hbl5 (by omega))
  have hz05 := hbl05.size
  have hF5 := hF4.below hbl5 (by omega)
  have hU5 := hN4.1.below hbl5 (Nat.le_refl _)
  have h5 := h.below RI.stable hbl05 hz
  obtain ⟨bf, hbf⟩ : ∃ bf, w4.heap.size = bf := ⟨_, rfl⟩
  rw [hbf] at hb5 ⊢
  have hbf5 : bf < w5.heap.size := by omega
  have hb5' : Blk w5 bf [vt, vt2] 55 := hb5
  repeat' (first|refine X.O ?_|refine X.A ?_|refine X.B ?_|refine X.C ?_|refine X.D ?_|refine X.E ?_|refine X.F ?_|refine X.G ?_|refine X.H ?_|refine X.I ?_|fail)
  refine WP.midE (fun l' x => ∃ va2 a2 lo2 hi2, ∃ n : Nat, Agree l' [(0, va2), (1, .int .i64 (n : Nat)), (6, .pointer (some ⟨bf, 0, none⟩)), (7, vu)] ∧ IS lo2 hi2 x va2 a2 ∧ Chr a2 ∧ powMapL a2 n = powZ a k ∧ n ≤ 100 ∧ Below w5.heap.size w5 x) ?_ ?_
  · first|refine X.J (fun _ => ?_) (fun _ => ?_)|refine X.L (fun _ => ?_) (fun _ => ?_)|refine X.M (fun _ => ?_) (fun _ => ?_)|refine X.R (fun _ => ?_) (fun _ => ?_)|fail
    · rename_i hneg
      repeat' (first|refine X.O ?_|refine X.A ?_|refine X.B ?_|refine X.C ?_|refine X.D ?_|refine X.E ?_|refine X.F ?_|refine X.G ?_|refine X.H ?_|refine X.I ?_|fail)
      refine WL.step (o_loadS (by rfl) hb5' (by rfl) ?_)
      repeat' (first|refine X.O ?_|refine X.A ?_|refine X.B ?_|refine X.C ?_|refine X.D ?_|refine X.E ?_|refine X.F ?_|refine X.G ?_|refine X.H ?_|refine X.I ?_|fail)
      refine WL.call (inverseMap_any hF5 h5 hl (isMap_all ha.map)) ?_
      intro v6 w6 hN6
      repeat' (first|refine X.O ?_|refine X.A ?_|refine X.B ?_|refine X.C ?_|refine X.D ?_|refine X.E ?_|refine X.F ?_|refine X.G ?_|refine X.H ?_|refine X.I ?_|fail)
      refine WL.step (o_neg (by rfl) (by unfold InI; omega) ?_)
      repeat' (first|refine X.O ?_|refine X.A ?_|refine X.B ?_|refine X.C ?_|refine X.D ?_|refine X.E ?_|refine X.F ?_|refine X.G ?_|refine X.H ?_|refine X.I ?_|fail)
      exact ⟨v6, invL a, _, _, (-k).toNat, ⟨rfl, X.T (by omega), rfl, rfl, trivial⟩, hN6.1.toIS (Nat.zero_le _), invL_chr a, by unfold powZ; rw [if_pos hneg], by omega, hN6.2⟩
    · rename_i hneg
      repeat' (first|refine X.O ?_|refine X.A ?_|refine X.B ?_|refine X.C ?_|refine X.D ?_|refine X.E ?_|refine X.F ?_|refine X.G ?_|refine X.H ?_|refine X.I ?_|fail)
      exact ⟨v, a, _, _, k.toNat, ⟨rfl, X.T (by omega), rfl, rfl, trivial⟩, h5, ha, by unfold powZ; rw [if_neg hneg], by omega, Below.refl _ _⟩
  · rintro l' w6 ⟨va2, a2, lo2, hi2, n, hag, hA, cA, hpe, hn, hbl6⟩
    refine WP.frame _ hag ?_
    clear hag
    have hz6 := hbl6.size
    have hF6 := hF5.below hbl6 (by omega)
    have hb6 := hb5'.below hbl6 hbf5
    have hU6 := hU5.below hbl6 (Nat.le_refl _)
    have hzA := hA.hi_le
    repeat' (first|refine X.O ?_|refine X.A ?_|refine X.B ?_|refine X.C ?_|refine X.D ?_|refine X.E ?_|refine X.F ?_|refine X.G ?_|refine X.H ?_|refine X.I ?_|fail)
    refine WP.loop (fun (s : Nat × Value) => [(0, va2), (6, .pointer (some ⟨bf, 0, none⟩)), (7, s.2), (30, .int .i64 (n : Nat)), (31, .int .i64 (s.1 : Nat))])
      (fun s w7 => s.1 ≤ n ∧ Own w.heap.size 2 w7 s.2 (Ints (powMapL a2 s.1)) ∧ Below w6.heap.size w6 w7)
      (fun s => n - s.1) (0, vu) ⟨rfl, rfl, rfl, rfl, rfl, trivial⟩ ⟨by dsimp only; omega, hU6.lower (by omega), Below.refl _ _⟩ ?_
    rintro ⟨i, vo⟩ w7 ⟨hi1, hown7, hbl7⟩
    dsimp only at hi1 hown7 ⊢
    have hz7 := hbl7.size
    repeat' (first|refine X.O ?_|refine X.A ?_|refine X.B ?_|refine X.C ?_|refine X.D ?_|refine X.E ?_|refine X.F ?_|refine X.G ?_|refine X.H ?_|refine X.I ?_|fail)
    first|refine X.J (fun _ => ?_) (fun _ => ?_)|refine X.L (fun _ => ?_) (fun _ => ?_)|refine X.M (fun _ => ?_) (fun _ => ?_)|refine X.R (fun _ => ?_) (fun _ => ?_)|fail
    · rename_i hlt
      have hP := powMapL_chr cA i
      repeat' (first|refine X.O ?_|refine X.A ?_|refine X.B ?_|refine X.C ?_|refine X.D ?_|refine X.E ?_|refine X.F ?_|refine X.G ?_|refine X.H ?_|refine X.I ?_|fail)
      refine WL.step (o_loadS (by rfl) (hb6.below hbl7 (by omega)) (by rfl) ?_)
      repeat' (first|refine X.O ?_|refine X.A ?_|refine X.B ?_|refine X.C ?_|refine X.D ?_|refine X.E ?_|refine X.F ?_|refine X.G ?_|refine X.H ?_|refine X.I ?_|fail)
      refine WL.call (convolve_any (hF6.below hbl7 (by omega)) (hown7.toIS (Nat.zero_le _)) (hA.below RI.stable hbl7 hzA) hP.len cA.len (isMap_all hP.map) (isMap_all cA.map)) ?_
      intro v8 w8 hN8
      repeat' (first|refine X.O ?_|refine X.A ?_|refine X.B ?_|refine X.C ?_|refine X.D ?_|refine X.E ?_|refine X.F ?_|refine X.G ?_|refine X.H ?_|refine X.I ?_|fail)
      exact ⟨(i + 1, v8), ⟨rfl, rfl, rfl, rfl, (by first|rfl|exact X.T (by omega)), trivial⟩, ⟨by dsimp only; omega, hN8.1.lower (by omega), hbl7.trans (Below.mono hN8.2 (by omega))⟩, by dsimp only; omega⟩
    · rename_i hge
      have hie : i = n := by omega
      subst hie
      repeat' (first|refine X.O ?_|refine X.A ?_|refine X.B ?_|refine X.C ?_|refine X.D ?_|refine X.E ?_|refine X.F ?_|refine X.G ?_|refine X.H ?_|refine X.I ?_|fail)
      refine ⟨_, ret2 rfl (by rfl) (by rfl), ?_⟩
      exact ⟨vo, rfl, by rw [← hpe]; exact hown7, (hbl05.trans (Below.mono hbl6 (by omega))).trans (Below.mono hbl7 (by omega))⟩
theorem PowerOfMap_rd {w : World} {va : Value} {a : List Int} (hA : RD w va a) (ha : Chr a) {k : Int} (h1 : -100 ≤ k) (h2 : k ≤ 100) : Does Tryz.prog 62 [va, .int .i64 k] w fun r w' => ∃ v', r = .tuple #[v', .int .i64 0] ∧ NewI w v' w' (powZ a k) := by
  obtain ⟨_, _, hA⟩ := hA; exact PowerOfMap_any hA ha h1 h2
end Go.Proofs
