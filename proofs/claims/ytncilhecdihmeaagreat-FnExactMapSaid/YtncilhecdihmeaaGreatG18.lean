/- Convolutions of maps and the logarithm of a product, both sides. -/
import Derived.Test.YtncilhecdihmeaaGreatG17
set_option maxRecDepth 8000
namespace Go.Proofs
open Go Go.Fw Go.RowKit Go.Rk
set_option maxHeartbeats 1000000 in
theorem convolve_any {lo hi la ha lx hx : Nat} {w : World} {vf va vx : Value} {a x : List Int} (hF : FormsI lo hi w vf) (hA : IS la ha w va a) (hX : IS lx hx w vx x) (hal : a.length = 38) (hxl : x.length = 38) (haa : allN a = true) (hxa : allN x = true) :
    Does Tryz.prog 108 [vf, va, vx] w fun r w' => NewI w r w' (convR modR cutLit a x) := by
  obtain ⟨vt, vc, rfl, _, hC⟩ := hF
  have hzC := hC.hi_le
  have hzA := hA.hi_le
  have hzX := hX.hi_le
  obtain ⟨ac, cc, hvc⟩ := hC.shape
  rw [cutLit_len] at hvc
  subst hvc
  have hkl := convR_len a x
  have hkg := fun i h h2 => convR_get a x (i := i) h h2
  have hk0 : (convR modR cutLit a x)[0]'(by omega) = x[0]'(by omega) := convR_zero (by omega)
  obtain ⟨K, hK⟩ : ∃ K, convR modR cutLit a x = K := ⟨_, rfl⟩
  simp only [hK] at hkl hkg hk0 ⊢
  refine Does.enter Tryz.func108 Tryz.ntmps108 rfl (by rfl) ?_
  repeat' (first|refine X.O ?_|refine X.A ?_|refine X.B ?_|refine X.C ?_|refine X.D ?_|refine X.E ?_|refine X.F ?_|refine X.G ?_|refine X.H ?_|refine X.I ?_|fail)
  refine WL.step (o_box (by rfl) ?_)
  intro w1 hb1 hbl1 hz1
  have hb1' : Blk w1 w.heap.size [vt, .slice ac 37 cc] _ := hb1
  repeat' (first|refine X.O ?_|refine X.A ?_|refine X.B ?_|refine X.C ?_|refine X.D ?_|refine X.E ?_|refine X.F ?_|refine X.G ?_|refine X.H ?_|refine X.I ?_|fail)
  refine WL.ixload (j := 0) (hX.below RI.stable hbl1 hzX) (List.getElem?_eq_getElem (by omega)) ?_
  rintro q00 _ rfl
  refine WL.step (o_lit (us := [.int .i64 (x[0]'(by omega))]) (by rfl) (by rfl) rfl (by decide) (one1 rfl) ?_)
  intro v2 w2 hown2 hbl2 hz2 _
  have hown20 : Own w1.heap.size 2 w2 v2 (Ints (K.take 1)) := by rw [Ints_snocG (show 0 < K.length by omega), hk0]; exact hown2
  repeat' (first|refine X.O ?_|refine X.A ?_|refine X.B ?_|refine X.C ?_|refine X.D ?_|refine X.E ?_|refine X.F ?_|refine X.G ?_|refine X.H ?_|refine X.I ?_|fail)
  refine WL.fld (hb1'.below hbl2 (by omega)) ?_
  intro q0
  repeat' (first|refine X.O ?_|refine X.A ?_|refine X.B ?_|refine X.C ?_|refine X.D ?_|refine X.E ?_|refine X.F ?_|refine X.G ?_|refine X.H ?_|refine X.I ?_|fail)
  refine WP.loop (fun (s : Nat × Value) => [(1, va), (2, vx), (7, s.2), (18, .slice ac 37 cc), (19, .int .i64 37), (20, .int .i64 (s.1 : Nat))])
    (fun s w3 => s.1 ≤ 37 ∧ Own w1.heap.size 2 w3 s.2 (Ints (K.take (s.1 + 1))) ∧ Below w1.heap.size w1 w3)
    (fun s => 37 - s.1) (0, v2) ⟨rfl, rfl, rfl, rfl, rfl, rfl, trivial⟩ ⟨by dsimp only; omega, hown20, hbl2⟩ ?_
  rintro ⟨i, vo⟩ w3 ⟨hi1, hown3, hbl3⟩
  dsimp only at hi1 hown3 ⊢
  have hz3 := hbl3.size
  have hbl03 : Below w.heap.size w w3 := hbl1.trans (Below.mono hbl3 (by omega))
  repeat' (first|refine X.O ?_|refine X.A ?_|refine X.B ?_|refine X.C ?_|refine X.D ?_|refine X.E ?_|refine X.F ?_|refine X.G ?_|refine X.H ?_|refine X.I ?_|fail)
  first|refine X.J (fun _ => ?_) (fun _ => ?_)|refine X.L (fun _ => ?_) (fun _ => ?_)|refine X.M (fun _ => ?_) (fun _ => ?_)|refine X.R (fun _ => ?_) (fun _ => ?_)|fail
  · rename_i hlt
    have hlc : i < cutLit.length := by rw [cutLit_len]; omega
    have hlk : i + 1 < K.length := by omega
    have hkk := hkg i hlc hlk
    obtain ⟨hrl, hrr⟩ := cutLit_row (List.getElem_mem hlc)
    repeat' (first|refine X.O ?_|refine X.A ?_|refine X.B ?_|refine X.C ?_|refine X.D ?_|refine X.E ?_|refine X.F ?_|refine X.G ?_|refine X.H ?_|refine X.I ?_|fail)
    refine WL.ixload (j := i) (hC.below RC.stable hbl03 hzC) (List.getElem?_eq_getElem hlc) ?_
    intro p1 u hu
    obtain ⟨rs, hrs⟩ : ∃ rs, cutLit[i] = rs := ⟨_, rfl⟩
    simp only [hrs] at hrl hrr hkk hu
    obtain ⟨au, cu, hvu⟩ := hu.shape
    subst hvu
    repeat' (first|refine X.O ?_|refine X.A ?_|refine X.B ?_|refine X.C ?_|refine X.D ?_|refine X.E ?_|refine X.F ?_|refine X.G ?_|refine X.H ?_|refine X.I ?_|fail)
    refine WL.step (o_len3 (by rfl) ?_)
    repeat' (first|refine X.O ?_|refine X.A ?_|refine X.B ?_|refine X.C ?_|refine X.D ?_|refine X.E ?_|refine X.F ?_|refine X.G ?_|refine X.H ?_|refine X.I ?_|fail)
    refine WP.loop (fun (j : Nat) => [(1, va), (2, vx), (7, vo), (10, .int .i64 (convSum a x (rs.take j))), (18, .slice ac 37 cc), (19, .int .i64 37), (20, .int .i64 (i : Nat)), (24, .slice au rs.length cu), (25, .int .i64 (rs.length : Nat)), (26, .int .i64 (j : Nat))])
      (fun j w4 => j ≤ rs.length ∧ Below w3.heap.size w3 w4)
      (fun j => rs.length - j) 0 ⟨rfl, rfl, rfl, rfl, rfl, rfl, rfl, rfl, rfl, rfl, trivial⟩ ⟨by omega, Below.refl _ _⟩ ?_
    rintro j w4 ⟨hj1, hbl4⟩
    have hz4 := hbl4.size
    have hsb := convSum_bd a x (rs.take j)
    have hstl : (rs.take j).length ≤ 15 := by rw [List.length_take]; omega
    repeat' (first|refine X.O ?_|refine X.A ?_|refine X.B ?_|refine X.C ?_|refine X.D ?_|refine X.E ?_|refine X.F ?_|refine X.G ?_|refine X.H ?_|refine X.I ?_|fail)
    first|refine X.J (fun _ => ?_) (fun _ => ?_)|refine X.L (fun _ => ?_) (fun _ => ?_)|refine X.M (fun _ => ?_) (fun _ => ?_)|refine X.R (fun _ => ?_) (fun _ => ?_)|fail
    · rename_i hltj
      have hlj : j < rs.length := by omega
      have hrj := hrr _ (List.getElem_mem hlj)
      have hsn : convSum a x (rs.take (j + 1)) = convSum a x (rs.take j) + convTerm a x rs[j] := by rw [List.take_succ_eq_append_getElem hlj, convSum_append]; simp [convSum]
      have htb := convTerm_bd a x rs[j]
      repeat' (first|refine X.O ?_|refine X.A ?_|refine X.B ?_|refine X.C ?_|refine X.D ?_|refine X.E ?_|refine X.F ?_|refine X.G ?_|refine X.H ?_|refine X.I ?_|fail)
      refine WL.ixloadRC (j := j) ((RC.stable).1 _ _ _ _ _ _ (Same.of_below hbl4 (by omega)) (by omega) hu) (List.getElem?_eq_getElem hlj) ?_
      intro p2 vk hvk
      obtain ⟨⟨rn, rc, rt⟩, hrE⟩ : ∃ r, rs[j] = r := ⟨_, rfl⟩
      rw [hrE] at hrj hsn htb hvk ⊢
      dsimp only at hrj hvk ⊢
      obtain ⟨ak, ck, hvke⟩ := hvk.shape
      rw [List.length_map] at hvke
      subst hvke
      refine WL.var (vs := [.int .i64 rn, .slice ak rc.length ck, .int .i64 (rt : Nat)]) (fun _ => by rfl) (by rfl) (fun y hy => by
        simp only [List.mem_cons, List.not_mem_nil, or_false] at hy
        rcases hy with rfl | rfl | rfl <;> rfl) ?_
      intro w5 hb5 hbl5 hz5
      have hvk5 := hvk.below RI.stable hbl5 (by omega)
      have hbl35 : Below w3.heap.size w3 w5 := hbl4.trans (Below.mono hbl5 (by omega))
      have hbl05 : Below w.heap.size w w5 := hbl03.trans (Below.mono hbl35 (by omega))
      have hltx : rt < x.length := by omega
      have hxb := allN_get hxa hltx
      have hpb := prodR_isN a rc
      have hte : convTerm a x (rn, rc, rt) = nm (rn * nm (prodR modR a rc * x[rt])) := by
        show nm (rn * nm (prodR modR a rc * x.getD rt 0)) = _
        rw [List.getD_eq_getElem?_getD, List.getElem?_eq_getElem hltx]; rfl
      repeat' (first|refine X.O ?_|refine X.A ?_|refine X.B ?_|refine X.C ?_|refine X.D ?_|refine X.E ?_|refine X.F ?_|refine X.G ?_|refine X.H ?_|refine X.I ?_|fail)
      refine WP.drawn (fun w' => w'.heap = w5.heap) [(0, true), (1, true), (2, true), (3, true), (4, true), (5, true), (7, true), (8, true), (9, true), (10, true), (11, true), (6, false), (12, true), (13, false), (14, true), (15, false), (16, true), (17, true)] (by kernel_rfl) mixed ?_
      intro w6 hs6
      have hw6 : w6.heap = w5.heap := hs6.heap
      have hbE : ∀ w', w'.heap = w5.heap → Blk w' w4.heap.size [.int .i64 rn, .slice ak rc.length ck, .int .i64 (rt : Nat)] 94 := fun w' h => hb5.keep (by rw [h])
      repeat' (first|refine X.U rfl ?_|refine X.V rfl ?_|refine X.W rfl ?_|refine X.Y rfl ?_|refine X.Z rfl ?_|refine WS.nil ?_|fail)
      refine WS.fld rfl rfl hbE hw6 ?_
      intro q2
      repeat' (first|refine X.U rfl ?_|refine X.V rfl ?_|refine X.W rfl ?_|refine X.Y rfl ?_|refine X.Z rfl ?_|refine WS.nil ?_|fail)
      refine WS.fld rfl rfl hbE hw6 ?_
      intro q3
      repeat' (first|refine X.U rfl ?_|refine X.V rfl ?_|refine X.W rfl ?_|refine X.Y rfl ?_|refine X.Z rfl ?_|refine WS.nil ?_|fail)
      refine WS.fld rfl rfl hbE hw6 ?_
      intro q6
      refine WS.ixload (j := rt) rfl rfl ((hX.below RI.stable hbl05 hzX).still RI.stable hs6) (List.getElem?_eq_getElem hltx) (fun w' hw' => same_heap (hw'.trans hw6.symm)) hw6 ?_
      rintro q7 _ rfl
      refine WS.call rfl (valueOf_any ((hA.below RI.stable hbl05 hzA).still RI.stable hs6) (hvk5.still RI.stable hs6) haa (fun k hk => by have := hrj.2.2.2 k hk; omega) hrj.2.2.1) ?_
      rintro _ w7 ⟨rfl, hs7⟩
      have hw7 : w7.heap = w5.heap := hs7.heap.trans hw6
      have hs67 := hs6.trans hs7
      refine ⟨hw7, ?_⟩
      refine WS.q rfl (q_mul (by rfl) (by rfl) (mul_in hpb.1 hpb.2 hxb.1 hxb.2)) hw7 ?_
      refine WS.call rfl (num_any _ _) ?_
      rintro _ _ ⟨rfl, rfl⟩
      refine ⟨hw7, ?_⟩
      have hn1 := nm_bd (prodR modR a rc * x[rt])
      refine WS.q rfl (q_mul (by rfl) (by rfl) (mul_in3 (by omega) hrj.1.2 hn1.1 hn1.2)) hw7 ?_
      refine WS.call rfl (num_any _ _) ?_
      rintro _ _ ⟨rfl, rfl⟩
      refine ⟨hw7, ?_⟩
      have hn2 := nm_bd (rn * nm (prodR modR a rc * x[rt]))
      repeat' (first|refine X.U rfl ?_|refine X.V rfl ?_|refine X.W rfl ?_|refine X.Y rfl ?_|refine X.Z rfl ?_|refine WS.nil ?_|fail)
      rw [hte] at hsn
      repeat' (first|refine X.O ?_|refine X.A ?_|refine X.B ?_|refine X.C ?_|refine X.D ?_|refine X.E ?_|refine X.F ?_|refine X.G ?_|refine X.H ?_|refine X.I ?_|fail)
      exact ⟨j + 1, ⟨rfl, rfl, rfl, (by rw [hsn]; rfl), rfl, rfl, rfl, rfl, rfl, (by first|rfl|exact X.T (by omega)), trivial⟩, ⟨by omega, hbl35.trans (hs67.below _)⟩, by omega⟩
    · rename_i hgej
      have hje : j = rs.length := by omega
      subst hje
      rw [List.take_length] at hsb ⊢
      repeat' (first|refine X.O ?_|refine X.A ?_|refine X.B ?_|refine X.C ?_|refine X.D ?_|refine X.E ?_|refine X.F ?_|refine X.G ?_|refine X.H ?_|refine X.I ?_|fail)
      refine WL.call (num_any _ _) ?_
      rintro _ _ ⟨rfl, rfl⟩
      refine o_append1 (u := .int .i64 (nm (convSum a x rs))) (fun _ => by rfl) (by rfl) (hown3.below hbl4 (Nat.le_refl _)) rfl (by rw [Ints_length, List.length_take]; unfold maxLen; omega) (by rw [Ints_length, List.length_take]; omega) (by omega) ?_
      intro p3 v6 w6 hown6 hbl6 _ hz6 _
      rw [← hkk, ← Ints_snocG hlk] at hown6
      repeat' (first|refine X.O ?_|refine X.A ?_|refine X.B ?_|refine X.C ?_|refine X.D ?_|refine X.E ?_|refine X.F ?_|refine X.G ?_|refine X.H ?_|refine X.I ?_|fail)
      exact ⟨(i + 1, v6), ⟨rfl, rfl, rfl, rfl, rfl, (by first|rfl|exact X.T (by omega)), trivial⟩, ⟨by dsimp only; omega, hown6, (hbl3.trans (Below.mono hbl4 (by omega))).trans hbl6⟩, by dsimp only; omega⟩
  · rename_i hge
    have hie : i = 37 := by omega
    subst hie
    rw [List.take_of_length_le (by omega)] at hown3
    repeat' (first|refine X.O ?_|refine X.A ?_|refine X.B ?_|refine X.C ?_|refine X.D ?_|refine X.E ?_|refine X.F ?_|refine X.G ?_|refine X.H ?_|refine X.I ?_|fail)
    refine ⟨_, ret1 rfl (by rfl), ?_⟩
    exact ⟨hown3.lower (by omega), hbl03⟩
set_option maxHeartbeats 1000000 in
theorem l07Conv_any {lc hc la ha lx hx : Nat} {w : World} {vc va vx : Value} {a x : List Int} (hC : TB lc hc w vc specTab) (hA : IS la ha w va a) (hX : IS lx hx w vx x) (hal : a.length = 38) (hxl : x.length = 38) (haa : allN a = true) (hxa : allN x = true) (ha1 : a[0]'(by omega) = 1) :
    Does Tryz.prog 107 [vc, va, vx] w fun r w' => NewI w r w' (convR modR cutLit a x) := by
  have hzC := hC.hi_le
  have hzA := hA.hi_le
  have hzX := hX.hi_le
  have hstl : specTab.length = 38 := by unfold specTab; rw [List.length_cons, cutLit_len]
  obtain ⟨ac, cc, hvc⟩ := hC.shape
  rw [hstl] at hvc
  subst hvc
  have hkl := convR_len a x
  have hkg := fun i h h2 => convR_get a x (i := i) h h2
  have hk0 : (convR modR cutLit a x)[0]'(by omega) = x[0]'(by omega) := convR_zero (by omega)
  obtain ⟨K, hK⟩ : ∃ K, convR modR cutLit a x = K := ⟨_, rfl⟩
  simp only [hK] at hkl hkg hk0 ⊢
  have hx0 := allN_get hxa (show 0 < x.length by omega)
  have hcall : ∀ w6, Does Tryz.prog 132 [.int .i64 (a[0]'(by omega)), .int .i64 (x[0]'(by omega))] w6 fun v w' => v = .int .i64 (K[0]'(by omega)) ∧ w6 = w' := fun w6 => by
    have e : K[0]'(by omega) = nm (a[0]'(by omega) * x[0]'(by omega)) := by rw [hk0, ha1, Int.one_mul]; unfold nm; omega
    rw [e]
    exact l01Mul_any _ _ _ (by rw [ha1, Int.one_mul]; unfold InI; omega)
  refine Does.enter Tryz.func107 Tryz.ntmps107 rfl (by rfl) ?_
  repeat' (first|refine X.O ?_|refine X.A ?_|refine X.B ?_|refine X.C ?_|refine X.D ?_|refine X.E ?_|refine X.F ?_|refine X.G ?_|refine X.H ?_|refine X.I ?_|fail)
  refine WP.midE (fun l' y => ∃ v2, Agree l' [(0, .slice ac 38 cc), (1, va), (2, vx), (7, v2)] ∧ Own w.heap.size 2 y v2 (Ints (K.take 1)) ∧ Below w.heap.size w y) ?_ ?_
  · refine WP.drawn (fun w' => Below w.heap.size w w') [(0, true), (1, true), (2, true), (3, true), (4, true), (5, true), (6, false), (7, false), (8, true)] (by kernel_rfl) mixed ?_
    intro w1 hs1
    have hz1 := hs1.size
    have hS1 : Below w.heap.size w w1 := hs1.below _
    repeat' (first|refine X.U rfl ?_|refine X.V rfl ?_|refine X.W rfl ?_|refine X.Y rfl ?_|refine X.Z rfl ?_|refine WS.nil ?_|fail)
    refine WS.ixload (j := 0) rfl rfl (hA.still RI.stable hs1) (List.getElem?_eq_getElem (by omega)) (fun w' hw' => same_below hS1 hw' hzA) hS1 ?_
    rintro q1 _ rfl
    repeat' (first|refine X.U rfl ?_|refine X.V rfl ?_|refine X.W rfl ?_|refine X.Y rfl ?_|refine X.Z rfl ?_|refine WS.nil ?_|fail)
    refine WS.ixload (j := 0) rfl rfl (hX.still RI.stable hs1) (List.getElem?_eq_getElem (by omega)) (fun w' hw' => same_below hS1 hw' hzX) hS1 ?_
    rintro q2 _ rfl
    refine WS.call rfl (hcall _) ?_
    rintro _ _ ⟨rfl, rfl⟩
    refine ⟨hS1, ?_⟩
    refine WS.op rfl (o_lit (us := [.int .i64 (K[0]'(by omega))]) (by rfl) (by rfl) rfl (by decide) (one1 rfl) ?_)
    intro v2 w2 hown2 hbl2 hz2 _
    have hS2 := hS1.trans (Below.mono hbl2 (by omega))
    refine ⟨hS2, ?_⟩
    repeat' (first|refine X.U rfl ?_|refine X.V rfl ?_|refine X.W rfl ?_|refine X.Y rfl ?_|refine X.Z rfl ?_|refine WS.nil ?_|fail)
    refine thenN ?_
    exact ⟨v2, ⟨rfl, rfl, rfl, rfl, trivial⟩, by rw [Ints_snocG (show 0 < K.length by omega)]; exact hown2.lower (by omega), hS2⟩
  · rintro l' w2 ⟨v2, hag, hown20, hbl2⟩
    refine WP.frame _ hag ?_
    clear hag
    repeat' (first|refine X.O ?_|refine X.A ?_|refine X.B ?_|refine X.C ?_|refine X.D ?_|refine X.E ?_|refine X.F ?_|refine X.G ?_|refine X.H ?_|refine X.I ?_|fail)
    refine WP.loop (fun (s : Nat × Value) => [(0, .slice ac 38 cc), (1, va), (2, vx), (7, s.2), (8, .int .i64 ((s.1 + 1 : Nat)))])
      (fun s w3 => s.1 ≤ 37 ∧ Own w.heap.size 2 w3 s.2 (Ints (K.take (s.1 + 1))) ∧ Below w.heap.size w w3)
      (fun s => 37 - s.1) (0, v2) ⟨rfl, rfl, rfl, rfl, rfl, trivial⟩ ⟨by dsimp only; omega, hown20, hbl2⟩ ?_
    rintro ⟨i, vo⟩ w3 ⟨hi1, hown3, hbl3⟩
    dsimp only at hi1 hown3 ⊢
    have hz3 := hbl3.size
    repeat' (first|refine X.O ?_|refine X.A ?_|refine X.B ?_|refine X.C ?_|refine X.D ?_|refine X.E ?_|refine X.F ?_|refine X.G ?_|refine X.H ?_|refine X.I ?_|fail)
    first|refine X.J (fun _ => ?_) (fun _ => ?_)|refine X.L (fun _ => ?_) (fun _ => ?_)|refine X.M (fun _ => ?_) (fun _ => ?_)|refine X.R (fun _ => ?_) (fun _ => ?_)|fail
    · rename_i hlt
      have hlc : i < cutLit.length := by rw [cutLit_len]; omega
      have hls : i + 1 < specTab.length := by rw [hstl]; omega
      have hlk : i + 1 < K.length := by omega
      have hkk := hkg i hlc hlk
      obtain ⟨hrl, hrr⟩ := cutLit_row (List.getElem_mem hlc)
      have hrow : specTab[i + 1] = cutLit[i] := rfl
      obtain ⟨rs, hrs⟩ : ∃ rs, cutLit[i] = rs := ⟨_, rfl⟩
      rw [hrs] at hrow
      simp only [hrs] at hrl hrr hkk
      repeat' (first|refine X.O ?_|refine X.A ?_|refine X.B ?_|refine X.C ?_|refine X.D ?_|refine X.E ?_|refine X.F ?_|refine X.G ?_|refine X.H ?_|refine X.I ?_|fail)
      refine WP.loop (fun (j : Nat) => [(0, .slice ac 38 cc), (1, va), (2, vx), (7, vo), (8, .int .i64 ((i + 1 : Nat))), (9, .int .i64 (nm (convSum a x (rs.take j)))), (10, .int .i64 (j : Nat))])
        (fun j w4 => j ≤ rs.length ∧ Still w3 w4)
        (fun j => rs.length - j) 0 ⟨rfl, rfl, rfl, rfl, rfl, X.T (by simp [convSum, nm]), rfl, trivial⟩ ⟨by omega, Still.refl _⟩ ?_
      rintro j w4 ⟨hj1, hs4⟩
      have hz4 := hs4.size
      have hbl04 : Below w.heap.size w w4 := hbl3.trans (hs4.below _)
      have hsb := nm_bd (convSum a x (rs.take j))
      repeat' (first|refine X.O ?_|refine X.A ?_|refine X.B ?_|refine X.C ?_|refine X.D ?_|refine X.E ?_|refine X.F ?_|refine X.G ?_|refine X.H ?_|refine X.I ?_|fail)
      refine WL.ixload (j := i + 1) (hC.below RC.stable hbl04 hzC) (List.getElem?_eq_getElem hls) ?_
      intro p1 u hu
      rw [hrow] at hu
      obtain ⟨au, cu, hvu⟩ := hu.shape
      subst hvu
      refine WL.step (o_len3 (by rfl) ?_)
      repeat' (first|refine X.O ?_|refine X.A ?_|refine X.B ?_|refine X.C ?_|refine X.D ?_|refine X.E ?_|refine X.F ?_|refine X.G ?_|refine X.H ?_|refine X.I ?_|fail)
      first|refine X.J (fun _ => ?_) (fun _ => ?_)|refine X.L (fun _ => ?_) (fun _ => ?_)|refine X.M (fun _ => ?_) (fun _ => ?_)|refine X.R (fun _ => ?_) (fun _ => ?_)|fail
      · rename_i hltj
        have hlj : j < rs.length := by omega
        have hrj := hrr _ (List.getElem_mem hlj)
        have hsn := convSum_step a x hlj
        have hcv := convTerm_val a x rs[j]
        obtain ⟨⟨rn, rc, rt⟩, hrE⟩ : ∃ r, rs[j] = r := ⟨_, rfl⟩
        have hrg : rs[j]? = some (rn, rc, rt) := by rw [List.getElem?_eq_getElem hlj, hrE]
        rw [hrE] at hrj hsn hcv
        dsimp only at hrj hcv
        have hltx : rt < x.length := by omega
        have hxb := allN_get hxa hltx
        rw [List.getD_eq_getElem?_getD, List.getElem?_eq_getElem hltx] at hcv
        replace hcv : valGo a (nm (rn * x[rt])) rc = convTerm a x (rn, rc, rt) := hcv
        repeat' (first|refine X.O ?_|refine X.A ?_|refine X.B ?_|refine X.C ?_|refine X.D ?_|refine X.E ?_|refine X.F ?_|refine X.G ?_|refine X.H ?_|refine X.I ?_|fail)
        refine WP.drawn (fun w' => w'.heap = w4.heap) [(0, true), (1, true), (2, true), (3, true), (4, true), (5, true), (6, true), (7, true), (8, true), (9, true), (10, true), (11, true), (12, true), (13, true), (14, true), (15, true), (16, true), (17, true), (18, true), (19, false), (20, true)] (by kernel_rfl) mixed ?_
        intro w5 hs5
        have hw5 : w5.heap = w4.heap := hs5.heap
        have hbl05 : Below w.heap.size w w5 := hbl04.trans (hs5.below _)
        repeat' (first|refine X.U rfl ?_|refine X.V rfl ?_|refine X.W rfl ?_|refine X.Y rfl ?_|refine X.Z rfl ?_|refine WS.nil ?_|fail)
        refine WS.ixload (j := i + 1) rfl rfl (hC.below RC.stable hbl05 hzC) (List.getElem?_eq_getElem hls) (fun w' hw' => same_heap (hw'.trans hw5.symm)) hw5 ?_
        intro p2 u2 hu2
        rw [hrow] at hu2
        repeat' (first|refine X.U rfl ?_|refine X.V rfl ?_|refine X.W rfl ?_|refine X.Y rfl ?_|refine X.Z rfl ?_|refine WS.nil ?_|fail)
        refine WS.ixfldRC (j := j) (off := 0) rfl rfl rfl hu2 hrg (by omega) (fun w' hw' => same_heap (hw'.trans hw5.symm)) hw5 ?_
        intro _ _ vk1 u3 _ hu3
        obtain rfl : .int .i64 rn = u3 := by simpa using hu3
        repeat' (first|refine X.U rfl ?_|refine X.V rfl ?_|refine X.W rfl ?_|refine X.Y rfl ?_|refine X.Z rfl ?_|refine WS.nil ?_|fail)
        refine WS.ixload (j := i + 1) rfl rfl (hC.below RC.stable hbl05 hzC) (List.getElem?_eq_getElem hls) (fun w' hw' => same_heap (hw'.trans hw5.symm)) hw5 ?_
        intro p4 u4 hu4
        rw [hrow] at hu4
        repeat' (first|refine X.U rfl ?_|refine X.V rfl ?_|refine X.W rfl ?_|refine X.Y rfl ?_|refine X.Z rfl ?_|refine WS.nil ?_|fail)
        refine WS.ixfldRC (j := j) (off := 2) rfl rfl rfl hu4 hrg (by omega) (fun w' hw' => same_heap (hw'.trans hw5.symm)) hw5 ?_
        intro _ _ vk2 u5 _ hu5
        obtain rfl : .int .i64 (rt : Nat) = u5 := by simpa using hu5
        refine WS.ixload (j := rt) rfl rfl (hX.below RI.stable hbl05 hzX) (List.getElem?_eq_getElem hltx) (fun w' hw' => same_heap (hw'.trans hw5.symm)) hw5 ?_
        rintro q7 _ rfl
        refine WS.call rfl (l01Mul_any rn x[rt] _ (mul_in3 (by omega) hrj.1.2 hxb.1 hxb.2)) ?_
        rintro _ _ ⟨rfl, rfl⟩
        refine ⟨hw5, ?_⟩
        repeat' (first|refine X.U rfl ?_|refine X.V rfl ?_|refine X.W rfl ?_|refine X.Y rfl ?_|refine X.Z rfl ?_|refine WS.nil ?_|fail)
        repeat' (first|refine X.O ?_|refine X.A ?_|refine X.B ?_|refine X.C ?_|refine X.D ?_|refine X.E ?_|refine X.F ?_|refine X.G ?_|refine X.H ?_|refine X.I ?_|fail)
        refine WP.loop (fun (k : Nat) => [(0, .slice ac 38 cc), (1, va), (2, vx), (7, vo), (8, .int .i64 ((i + 1 : Nat))), (9, .int .i64 (nm (convSum a x (rs.take j)))), (10, .int .i64 (j : Nat)), (11, .int .i64 (valGo a (nm (rn * x[rt])) (rc.take k))), (12, .int .i64 (k : Nat))])
          (fun k w6 => k ≤ rc.length ∧ Still w4 w6)
          (fun k => rc.length - k) 0 ⟨rfl, rfl, rfl, rfl, rfl, rfl, rfl, rfl, rfl, trivial⟩ ⟨by omega, hs5⟩ ?_
        rintro k w6 ⟨hk1, hs6⟩
        have hbl06 : Below w.heap.size w w6 := hbl04.trans (hs6.below _)
        have hnb := nm_bd (rn * x[rt])
        have hvb := valGo_bd a (rc.take k) _ hnb.1 hnb.2
        repeat' (first|refine X.O ?_|refine X.A ?_|refine X.B ?_|refine X.C ?_|refine X.D ?_|refine X.E ?_|refine X.F ?_|refine X.G ?_|refine X.H ?_|refine X.I ?_|fail)
        refine WL.ixload (j := i + 1) (hC.below RC.stable hbl06 hzC) (List.getElem?_eq_getElem hls) ?_
        intro p6 u6 hu6
        rw [hrow] at hu6
        repeat' (first|refine X.O ?_|refine X.A ?_|refine X.B ?_|refine X.C ?_|refine X.D ?_|refine X.E ?_|refine X.F ?_|refine X.G ?_|refine X.H ?_|refine X.I ?_|fail)
        refine WL.ixfldRC (j := j) (off := 1) hu6 hrg (by omega) ?_
        intro _ _ vk3 u7 hvk3 hu7
        obtain rfl : vk3 = u7 := by simpa using hu7
        obtain ⟨ak, ck, hvke⟩ := hvk3.shape
        rw [List.length_map] at hvke
        dsimp only at hvke
        subst hvke
        repeat' (first|refine X.O ?_|refine X.A ?_|refine X.B ?_|refine X.C ?_|refine X.D ?_|refine X.E ?_|refine X.F ?_|refine X.G ?_|refine X.H ?_|refine X.I ?_|fail)
        first|refine X.J (fun _ => ?_) (fun _ => ?_)|refine X.L (fun _ => ?_) (fun _ => ?_)|refine X.M (fun _ => ?_) (fun _ => ?_)|refine X.R (fun _ => ?_) (fun _ => ?_)|fail
        · rename_i hltk
          have hlk2 : k < rc.length := by omega
          have hkb := hrj.2.2.2 _ (List.getElem_mem hlk2)
          have hka : rc[k] < a.length := by omega
          have hab := allN_get haa hka
          have hvn : nm (valGo a (nm (rn * x[rt])) (rc.take k) * a[rc[k]]) = valGo a (nm (rn * x[rt])) (rc.take (k + 1)) := by
            rw [List.take_succ_eq_append_getElem hlk2, valGo_snoc, List.getD_eq_getElem?_getD, List.getElem?_eq_getElem hka]; rfl
          repeat' (first|refine X.O ?_|refine X.A ?_|refine X.B ?_|refine X.C ?_|refine X.D ?_|refine X.E ?_|refine X.F ?_|refine X.G ?_|refine X.H ?_|refine X.I ?_|fail)
          refine WL.ixload (j := i + 1) (hC.below RC.stable hbl06 hzC) (List.getElem?_eq_getElem hls) ?_
          intro p8 u8 hu8
          rw [hrow] at hu8
          repeat' (first|refine X.O ?_|refine X.A ?_|refine X.B ?_|refine X.C ?_|refine X.D ?_|refine X.E ?_|refine X.F ?_|refine X.G ?_|refine X.H ?_|refine X.I ?_|fail)
          refine WL.ixfldRC (j := j) (off := 1) hu8 hrg (by omega) ?_
          intro _ _ vk4 u9 hvk4 hu9
          obtain rfl : vk4 = u9 := by simpa using hu9
          repeat' (first|refine X.O ?_|refine X.A ?_|refine X.B ?_|refine X.C ?_|refine X.D ?_|refine X.E ?_|refine X.F ?_|refine X.G ?_|refine X.H ?_|refine X.I ?_|fail)
          refine WL.ixload (j := k) (a := (rc[k] : Int)) hvk4 (by rw [List.getElem?_map, List.getElem?_eq_getElem hlk2]; rfl) ?_
          rintro p10 _ rfl
          refine WL.ixload (j := rc[k]) (hA.below RI.stable hbl06 hzA) (List.getElem?_eq_getElem hka) ?_
          rintro p11 _ rfl
          refine WL.call (l01Mul_any (valGo a (nm (rn * x[rt])) (rc.take k)) a[rc[k]] _ (mul_in hvb.1 hvb.2 hab.1 hab.2)) ?_
          rintro _ _ ⟨rfl, rfl⟩
          rw [hvn]
          repeat' (first|refine X.O ?_|refine X.A ?_|refine X.B ?_|refine X.C ?_|refine X.D ?_|refine X.E ?_|refine X.F ?_|refine X.G ?_|refine X.H ?_|refine X.I ?_|fail)
          exact ⟨k + 1, ⟨rfl, rfl, rfl, rfl, rfl, rfl, rfl, rfl, (by first|rfl|exact X.T (by omega)), trivial⟩, ⟨by omega, hs6⟩, by omega⟩
        · rename_i hgek
          have hke : k = rc.length := by omega
          subst hke
          rw [List.take_length, hcv] at hvb ⊢
          repeat' (first|refine X.O ?_|refine X.A ?_|refine X.B ?_|refine X.C ?_|refine X.D ?_|refine X.E ?_|refine X.F ?_|refine X.G ?_|refine X.H ?_|refine X.I ?_|fail)
          refine WL.call (l01Add_any (nm (convSum a x (rs.take j))) (convTerm a x (rn, rc, rt)) _ (by unfold InI; omega)) ?_
          rintro _ _ ⟨rfl, rfl⟩
          rw [hsn]
          repeat' (first|refine X.O ?_|refine X.A ?_|refine X.B ?_|refine X.C ?_|refine X.D ?_|refine X.E ?_|refine X.F ?_|refine X.G ?_|refine X.H ?_|refine X.I ?_|fail)
          exact ⟨j + 1, ⟨rfl, rfl, rfl, rfl, rfl, rfl, (by first|rfl|exact X.T (by omega)), trivial⟩, ⟨by omega, hs4.trans hs6⟩, by omega⟩
      · rename_i hgej
        have hje : j = rs.length := by omega
        subst hje
        rw [List.take_length]
        repeat' (first|refine X.O ?_|refine X.A ?_|refine X.B ?_|refine X.C ?_|refine X.D ?_|refine X.E ?_|refine X.F ?_|refine X.G ?_|refine X.H ?_|refine X.I ?_|fail)
        refine o_append1 (u := .int .i64 (nm (convSum a x rs))) (fun _ => by rfl) (by rfl) (hown3.still hs4) rfl (by rw [Ints_length, List.length_take]; unfold maxLen; omega) (by rw [Ints_length, List.length_take]; omega) (by have := hbl04.size; omega) ?_
        intro p3 v6 w6 hown6 hbl6 _ hz6 _
        rw [← hkk, ← Ints_snocG hlk] at hown6
        repeat' (first|refine X.O ?_|refine X.A ?_|refine X.B ?_|refine X.C ?_|refine X.D ?_|refine X.E ?_|refine X.F ?_|refine X.G ?_|refine X.H ?_|refine X.I ?_|fail)
        exact ⟨(i + 1, v6), ⟨rfl, rfl, rfl, rfl, (by first|rfl|exact X.T (by omega)), trivial⟩, ⟨by dsimp only; omega, hown6, hbl04.trans hbl6⟩, by dsimp only; omega⟩
    · rename_i hge
      have hie : i = 37 := by omega
      subst hie
      rw [List.take_of_length_le (by omega)] at hown3
      repeat' (first|refine X.O ?_|refine X.A ?_|refine X.B ?_|refine X.C ?_|refine X.D ?_|refine X.E ?_|refine X.F ?_|refine X.G ?_|refine X.H ?_|refine X.I ?_|fail)
      refine ⟨_, ret1 rfl (by rfl), ?_⟩
      exact ⟨hown3, hbl3⟩
end Go.Proofs
