/- The law of the exact map, walked. -/
import Derived.Test.YtncilhecdihmeaaGreatM8
import Derived.Test.YtncilhecdihmeaaGreatD8
set_option maxRecDepth 8000
namespace Go.Fw
open Go Go.RowKit
section
variable {P : Program} {N : Nat} {Q : Exit → Fr → World → Prop} {l : Fr} {w : World}
theorem WP.midB2 {c : Code} {id : Nat} {K : Fr → World → Prop} (M : Fr → World → Prop) (hx : WP P N c (inBlockE id (thenE M Q)) l w) (hk : ∀ l w, M l w → K l w) : WP P N c (inBlockE id (thenE K Q)) l w := fun a ha => by
  refine wp_mono (hx a ha) ?_
  intro e a' w' he
  cases e with
  | normal => obtain ⟨l', hl, hK⟩ := he; exact ⟨l', hl, hk _ _ hK⟩
  | exit id' =>
    obtain ⟨l', hl, hK⟩ := he
    simp only [inBlockE] at hK
    refine ⟨l', hl, ?_⟩
    simp only [inBlockE]
    split
    · rename_i e; rw [if_pos e] at hK; exact hk _ _ hK
    · rename_i e; rw [if_neg e] at hK; exact hK
  | goto n => exact he
  | ret => exact he
  | panic c => exact he
  | outgrown => exact he
end
end Go.Fw
namespace Go.Proofs
open Go Go.Fw Go.RowKit Go.Rk
theorem OrderOfMap_rd {w : World} {v : Value} {a : List Int} (h : RD w v a) : Does Tryz.prog 19 [v] w fun r w' => r = .tuple #[.int .i64 (orderOfMap a).1, .int .i64 (orderOfMap a).2] ∧ Chg 0 0 w w' := by
  obtain ⟨_, _, h⟩ := h; exact OrderOfMap_any h
set_option maxHeartbeats 4000000 in
theorem FnExactMap_any {w : World} {lo hi : Nat} {v : Value} {bs : List Int} (h : IU lo hi w v bs) : Does Tryz.prog 13 [v] w fun r w' => r = .bool true ∧ Below w.heap.size w w' := by
  have hhl := h.hi_le
  have cE := exact_chr
  have hEl := exactL_len
  have hadd := fun (r t : Int) hr ht => exact_add (r := r) (t := t) hr ht
  have hpow := fun (k : Int) h1 h2 => power_exact (k := k) h1 h2
  have hord := exact_order
  have hra := fun i (h : i < 38) h0 h1 h2 h3 => raise_exact (i := i) h h0 h1 h2 h3
  have hrl := raiseL_len exactL
  have hpl := placesN_len
  have hpb := fun i h => places_le (i := i) h
  obtain ⟨E, hE⟩ : ∃ E, exactL = E := ⟨_, rfl⟩
  obtain ⟨R, hR⟩ : ∃ R, raiseL exactL = R := ⟨_, rfl⟩
  obtain ⟨K, hK⟩ : ∃ K, placesN = K := ⟨_, rfl⟩
  have hre : ∀ {w : World} {v : Value}, RD w v E → Does Tryz.prog 61 [v] w fun r w' => ∃ v', r = .tuple #[v', .int .i64 0] ∧ NewI w v' w' R := fun h => by
    rw [← hE] at h; rw [← hR]; exact RaiseMap_rd h exact_chr.map
  have hex : ∀ w, Does Tryz.prog 28 [] w fun r w' => NewI w r w' E := fun w => by rw [← hE]; exact ExactMap_any w
  have hsz : ∀ w, Does Tryz.prog 59 [] w fun r w' => NewI w r w' K := fun w => by rw [← hK]; exact sizes9_any w
  simp only [hR] at hra hrl
  simp only [hE, hK] at cE hEl hadd hpow hord hra hpl hpb
  refine Does.enter Tryz.func13 Tryz.ntmps13 rfl (by rfl) ?_
  repeat' (first|refine X.O ?_|refine X.A ?_|refine X.B ?_|refine X.C ?_|refine X.D ?_|refine X.E ?_|refine X.F ?_|refine X.G ?_|refine X.H ?_|refine X.I ?_|fail)
  refine WL.call (big_any h) ?_
  rintro _ w0 ⟨rfl, hs0⟩
  repeat' (first|refine X.O ?_|refine X.A ?_|refine X.B ?_|refine X.C ?_|refine X.D ?_|refine X.E ?_|refine X.F ?_|refine X.G ?_|refine X.H ?_|refine X.I ?_|fail)
  first|refine X.J (fun _ => ?_) (fun _ => ?_)|refine X.L (fun _ => ?_) (fun _ => ?_)|refine X.M (fun _ => ?_) (fun _ => ?_)|refine X.R (fun _ => ?_) (fun _ => ?_)|fail
  · repeat' (first|refine X.O ?_|refine X.A ?_|refine X.B ?_|refine X.C ?_|refine X.D ?_|refine X.E ?_|refine X.F ?_|refine X.G ?_|refine X.H ?_|refine X.I ?_|fail)
    refine ⟨_, ret1 rfl (by rfl), ?_⟩
    exact ⟨rfl, hs0.below _⟩
  rename_i hbig
  have hH : Have w w0 [] := ⟨hs0.below _, fun p hp => by simp at hp⟩
  repeat' (first|refine X.O ?_|refine X.A ?_|refine X.B ?_|refine X.C ?_|refine X.D ?_|refine X.E ?_|refine X.F ?_|refine X.G ?_|refine X.H ?_|refine X.I ?_|fail)
  refine WL.call (roll_any (h.below RU.stable hH.bel hhl) (by omega) 1072 (by omega) (by omega)) ?_
  rintro _ w1 ⟨rfl, hdi, hc1⟩
  replace hH := hH.roll hdi hc1
  repeat' (first|refine X.O ?_|refine X.A ?_|refine X.B ?_|refine X.C ?_|refine X.D ?_|refine X.E ?_|refine X.F ?_|refine X.G ?_|refine X.H ?_|refine X.I ?_|fail)
  refine WL.call (hex _) ?_
  intro v2 w2 hN2
  replace hH := hH.new 0 hN2
  repeat' (first|refine X.O ?_|refine X.A ?_|refine X.B ?_|refine X.C ?_|refine X.D ?_|refine X.E ?_|refine X.F ?_|refine X.G ?_|refine X.H ?_|refine X.I ?_|fail)
  refine WL.call (hsz _) ?_
  intro v3 w3 hN3
  replace hH := hH.new 1 hN3
  obtain ⟨a2, c2, hv2, _⟩ := hN2.1.shape
  rw [Ints_length, hEl] at hv2
  subst hv2
  obtain ⟨a3, c3, hv3, _⟩ := hN3.1.shape
  rw [Ints_length, hpl] at hv3
  subst hv3
  repeat' (first|refine X.O ?_|refine X.A ?_|refine X.B ?_|refine X.C ?_|refine X.D ?_|refine X.E ?_|refine X.F ?_|refine X.G ?_|refine X.H ?_|refine X.I ?_|fail)
  refine WL.call (IsCharacter_rd (hH.get 0 rfl) cE) ?_
  rintro _ w4 ⟨rfl, hs4⟩
  replace hH := hH.still hs4
  repeat' (first|refine X.O ?_|refine X.A ?_|refine X.B ?_|refine X.C ?_|refine X.D ?_|refine X.E ?_|refine X.F ?_|refine X.G ?_|refine X.H ?_|refine X.I ?_|fail)
  try (refine WP.condD (by rfl) (fun hbad => False.elim (by first | exact hbad rfl | omega)) (fun _ => ?_))
  repeat' (first|refine X.O ?_|refine X.A ?_|refine X.B ?_|refine X.C ?_|refine X.D ?_|refine X.E ?_|refine X.F ?_|refine X.G ?_|refine X.H ?_|refine X.I ?_|fail)
  refine WL.call (below_any hH.dice 10007 (by omega)) ?_
  rintro _ w5 ⟨⟨r, rfl, _, hr⟩, hd5⟩
  have hr := hr (by omega)
  have hrn : isN r = true := isN_of ⟨hr.1, by omega⟩
  replace hH := hH.rolled hd5
  repeat' (first|refine X.O ?_|refine X.A ?_|refine X.B ?_|refine X.C ?_|refine X.D ?_|refine X.E ?_|refine X.F ?_|refine X.G ?_|refine X.H ?_|refine X.I ?_|fail)
  refine WL.call (below_any hH.dice 10007 (by omega)) ?_
  rintro _ w6 ⟨⟨t, rfl, _, ht⟩, hd6⟩
  have ht := ht (by omega)
  have htn : isN t = true := isN_of ⟨ht.1, by omega⟩
  replace hH := hH.rolled hd6
  repeat' (first|refine X.O ?_|refine X.A ?_|refine X.B ?_|refine X.C ?_|refine X.D ?_|refine X.E ?_|refine X.F ?_|refine X.G ?_|refine X.H ?_|refine X.I ?_|fail)
  refine WL.call (ScaleMap_rd (hH.get 0 rfl) cE.map hrn) ?_
  rintro _ w7 ⟨v7, rfl, hN7⟩
  replace hH := hH.new 2 hN7
  repeat' (first|refine X.O ?_|refine X.A ?_|refine X.B ?_|refine X.C ?_|refine X.D ?_|refine X.E ?_|refine X.F ?_|refine X.G ?_|refine X.H ?_|refine X.I ?_|fail)
  refine WL.call (ScaleMap_rd (hH.get 0 rfl) cE.map htn) ?_
  rintro _ w8 ⟨v8, rfl, hN8⟩
  replace hH := hH.new 3 hN8
  repeat' (first|refine X.O ?_|refine X.A ?_|refine X.B ?_|refine X.C ?_|refine X.D ?_|refine X.E ?_|refine X.F ?_|refine X.G ?_|refine X.H ?_|refine X.I ?_|fail)
  refine WL.call (mod9_any _ _) ?_
  rintro _ _ ⟨rfl, rfl⟩
  repeat' (first|refine X.O ?_|refine X.A ?_|refine X.B ?_|refine X.C ?_|refine X.D ?_|refine X.E ?_|refine X.F ?_|refine X.G ?_|refine X.H ?_|refine X.I ?_|fail)
  refine WL.call (ScaleMap_rd (hH.get 0 rfl) cE.map (nm_isN _)) ?_
  rintro _ w9 ⟨v9, rfl, hN9⟩
  replace hH := hH.new 4 hN9
  repeat' (first|refine X.O ?_|refine X.A ?_|refine X.B ?_|refine X.C ?_|refine X.D ?_|refine X.E ?_|refine X.F ?_|refine X.G ?_|refine X.H ?_|refine X.I ?_|fail)
  refine WL.call (hre (hH.get 0 rfl)) ?_
  rintro _ w10 ⟨v10, rfl, hN10⟩
  replace hH := hH.new 5 hN10
  obtain ⟨a10, c10, hv10, _⟩ := hN10.1.shape
  rw [Ints_length, hrl] at hv10
  subst hv10
  repeat' (first|refine X.O ?_|refine X.A ?_|refine X.B ?_|refine X.C ?_|refine X.D ?_|refine X.E ?_|refine X.F ?_|refine X.G ?_|refine X.H ?_|refine X.I ?_|fail)
  refine WL.call (below_any hH.dice 9 (by omega)) ?_
  rintro _ w11 ⟨⟨n, rfl, _, hn⟩, hd11⟩
  have hn := hn (by omega)
  replace hH := (hH.rolled hd11).have
  repeat' (first|refine X.O ?_|refine X.A ?_|refine X.B ?_|refine X.C ?_|refine X.D ?_|refine X.E ?_|refine X.F ?_|refine X.G ?_|refine X.H ?_|refine X.I ?_|fail)
  refine WL.call (PowerOfMap_rd (k := n - 4) (hH.get 0 rfl) cE (by omega) (by omega)) ?_
  rintro _ w12 ⟨v12, rfl, hN12⟩
  replace hH := hH.new 6 hN12
  repeat' (first|refine X.O ?_|refine X.A ?_|refine X.B ?_|refine X.C ?_|refine X.D ?_|refine X.E ?_|refine X.F ?_|refine X.G ?_|refine X.H ?_|refine X.I ?_|fail)
  refine WL.call (mod9_any _ _) ?_
  rintro _ _ ⟨rfl, rfl⟩
  repeat' (first|refine X.O ?_|refine X.A ?_|refine X.B ?_|refine X.C ?_|refine X.D ?_|refine X.E ?_|refine X.F ?_|refine X.G ?_|refine X.H ?_|refine X.I ?_|fail)
  refine WL.call (ScaleMap_rd (hH.get 0 rfl) cE.map (nm_isN _)) ?_
  rintro _ w13 ⟨v13, rfl, hN13⟩
  replace hH := hH.new 7 hN13
  repeat' (first|refine X.O ?_|refine X.A ?_|refine X.B ?_|refine X.C ?_|refine X.D ?_|refine X.E ?_|refine X.F ?_|refine X.G ?_|refine X.H ?_|refine X.I ?_|fail)
  refine WL.call (OrderOfMap_rd (hH.get 0 rfl)) ?_
  rintro _ w14 ⟨rfl, hc14⟩
  replace hH := hH.chg hc14
  rw [hord]
  repeat' (first|refine X.O ?_|refine X.A ?_|refine X.B ?_|refine X.C ?_|refine X.D ?_|refine X.E ?_|refine X.F ?_|refine X.G ?_|refine X.H ?_|refine X.I ?_|fail)
  try (refine WP.condD (by rfl) (fun hbad => False.elim (by first | exact hbad rfl | omega)) (fun _ => ?_))
  repeat' (first|refine X.O ?_|refine X.A ?_|refine X.B ?_|refine X.C ?_|refine X.D ?_|refine X.E ?_|refine X.F ?_|refine X.G ?_|refine X.H ?_|refine X.I ?_|fail)
  obtain ⟨_, _, hS⟩ := hH.get 1 rfl
  obtain ⟨_, _, hX⟩ := hH.get 0 rfl
  obtain ⟨_, _, hP⟩ := hH.get 5 rfl
  refine WP.midB2 (fun l' x => Agree l' [(8, v7), (10, v8), (12, v9), (17, v12), (19, v13)] ∧ Still w14 x) ?_ ?_
  · refine WP.loop (fun (i : Nat) => [(4, .slice a2 38 c2), (5, .slice a3 38 c3), (8, v7), (10, v8), (12, v9), (14, .slice a10 38 c10), (17, v12), (19, v13), (23, .int .i64 ((i + 1 : Nat)))])
      (fun i w15 => i ≤ 37 ∧ Still w14 w15)
      (fun i => 37 - i) 0 ⟨rfl, rfl, rfl, rfl, rfl, rfl, rfl, rfl, rfl, trivial⟩ ⟨by omega, Still.refl _⟩ ?_
    rintro i w15 ⟨hi1, hs15⟩
    repeat' (first|refine X.O ?_|refine X.A ?_|refine X.B ?_|refine X.C ?_|refine X.D ?_|refine X.E ?_|refine X.F ?_|refine X.G ?_|refine X.H ?_|refine X.I ?_|fail)
    first|refine X.J (fun _ => ?_) (fun _ => ?_)|refine X.L (fun _ => ?_) (fun _ => ?_)|refine X.M (fun _ => ?_) (fun _ => ?_)|refine X.R (fun _ => ?_) (fun _ => ?_)|fail
    · rename_i hlt
      have hlk : i + 1 < K.length := by omega
      have hle : i + 1 < E.length := by omega
      have hlr : i + 1 < R.length := by omega
      have hfact := hra (i + 1) (by omega) (by omega) hlk hle hlr
      have hkb := hpb (i + 1) hlk
      have heb := allN_get (isMap_all cE.map) hle
      repeat' (first|refine X.O ?_|refine X.A ?_|refine X.B ?_|refine X.C ?_|refine X.D ?_|refine X.E ?_|refine X.F ?_|refine X.G ?_|refine X.H ?_|refine X.I ?_|fail)
      refine WP.drawn (fun w' => w'.heap = w15.heap) [(0, true), (1, true), (2, true), (3, true), (4, true), (5, true), (6, true), (7, true), (8, true), (10, true), (11, true), (12, true), (13, true), (9, false), (14, true)] (by kernel_rfl) mixed ?_
      intro w16 hs16
      have hw16 : w16.heap = w15.heap := hs16.heap
      have hs := hs15.trans hs16
      repeat' (first|refine X.U rfl ?_|refine X.V rfl ?_|refine X.W rfl ?_|refine X.Y rfl ?_|refine X.Z rfl ?_|refine WS.nil ?_|fail)
      refine WS.ixload (j := i + 1) rfl rfl (hS.still RI.stable hs) (List.getElem?_eq_getElem hlk) (fun w' hw' => same_heap (hw'.trans hw16.symm)) hw16 ?_
      rintro p1 _ rfl
      repeat' (first|refine X.U rfl ?_|refine X.V rfl ?_|refine X.W rfl ?_|refine X.Y rfl ?_|refine X.Z rfl ?_|refine WS.nil ?_|fail)
      refine WS.ixload (j := i + 1) rfl rfl (hX.still RI.stable hs) (List.getElem?_eq_getElem hle) (fun w' hw' => same_heap (hw'.trans hw16.symm)) hw16 ?_
      rintro p2 _ rfl
      refine WS.q rfl (q_mul (by rfl) (by rfl) (mul_in (by omega) (by omega) heb.1 heb.2)) hw16 ?_
      repeat' (first|refine X.U rfl ?_|refine X.V rfl ?_|refine X.W rfl ?_|refine X.Y rfl ?_|refine X.Z rfl ?_|refine WS.nil ?_|fail)
      refine WS.ixload (j := i + 1) rfl rfl (hP.still RI.stable hs) (List.getElem?_eq_getElem hlr) (fun w' hw' => same_heap (hw'.trans hw16.symm)) hw16 ?_
      rintro p3 _ rfl
      refine WS.call rfl (mod9_any _ _) ?_
      rintro _ _ ⟨rfl, rfl⟩
      refine ⟨hw16, ?_⟩
      rw [hfact]
      repeat' (first|refine X.U rfl ?_|refine X.V rfl ?_|refine X.W rfl ?_|refine X.Y rfl ?_|refine X.Z rfl ?_|refine WS.nil ?_|fail)
      repeat' (first|refine X.O ?_|refine X.A ?_|refine X.B ?_|refine X.C ?_|refine X.D ?_|refine X.E ?_|refine X.F ?_|refine X.G ?_|refine X.H ?_|refine X.I ?_|fail)
      try (refine WP.condD (by rfl) (fun hbad => False.elim (by first | exact hbad rfl | omega)) (fun _ => ?_))
      repeat' (first|refine X.O ?_|refine X.A ?_|refine X.B ?_|refine X.C ?_|refine X.D ?_|refine X.E ?_|refine X.F ?_|refine X.G ?_|refine X.H ?_|refine X.I ?_|fail)
      exact ⟨i + 1, ⟨rfl, rfl, rfl, rfl, rfl, rfl, rfl, rfl, (by first|rfl|exact X.T (by omega)), trivial⟩, ⟨by omega, hs⟩, by omega⟩
    · repeat' (first|refine X.O ?_|refine X.A ?_|refine X.B ?_|refine X.C ?_|refine X.D ?_|refine X.E ?_|refine X.F ?_|refine X.G ?_|refine X.H ?_|refine X.I ?_|fail)
      exact ⟨⟨rfl, rfl, rfl, rfl, rfl, trivial⟩, hs15⟩
  · rintro l' w15 ⟨hag, hs15⟩
    refine WP.frame _ hag ?_
    clear hag
    replace hH := hH.still hs15
    repeat' (first|refine X.O ?_|refine X.A ?_|refine X.B ?_|refine X.C ?_|refine X.D ?_|refine X.E ?_|refine X.F ?_|refine X.G ?_|refine X.H ?_|refine X.I ?_|fail)
    refine WL.call (conv9_rd (hH.get 2 rfl) (hH.get 3 rfl) cE.scale cE.scale.map) ?_
    intro v16 w16 hN16
    replace hH := hH.new 8 hN16
    repeat' (first|refine X.O ?_|refine X.A ?_|refine X.B ?_|refine X.C ?_|refine X.D ?_|refine X.E ?_|refine X.F ?_|refine X.G ?_|refine X.H ?_|refine X.I ?_|fail)
    refine WL.call (likeInts_rd (hH.get 8 rfl) (hH.get 4 rfl) (hadd r t hrn htn)) ?_
    rintro _ w17 ⟨rfl, hs17⟩
    replace hH := hH.still hs17
    repeat' (first|refine X.O ?_|refine X.A ?_|refine X.B ?_|refine X.C ?_|refine X.D ?_|refine X.E ?_|refine X.F ?_|refine X.G ?_|refine X.H ?_|refine X.I ?_|fail)
    refine WL.call (likeInts_rd (hH.get 6 rfl) (hH.get 7 rfl) (hpow (n - 4) (by omega) (by omega))) ?_
    rintro _ w18 ⟨rfl, hs18⟩
    replace hH := hH.still hs18
    repeat' (first|refine X.O ?_|refine X.A ?_|refine X.B ?_|refine X.C ?_|refine X.D ?_|refine X.E ?_|refine X.F ?_|refine X.G ?_|refine X.H ?_|refine X.I ?_|fail)
    refine ⟨_, ret1 rfl (by rfl), ?_⟩
    exact ⟨rfl, hH.bel⟩
end Go.Proofs
