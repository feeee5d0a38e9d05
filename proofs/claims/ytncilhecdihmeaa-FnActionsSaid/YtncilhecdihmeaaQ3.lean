/- How many cuts leave two trees, the program's: CountCutsTo at trees of at most 6 nodes. -/
import Derived.Test.YtncilhecdihmeaaQ2
set_option maxRecDepth 8000
namespace Go.Proofs
open Go Go.Fw Go.RowKit Go.Rk
set_option maxHeartbeats 1000000 in
theorem CountCutsTo_any {lt ht lk hk li hi : Nat} {w : World} {vt vk vi : Value} {n k i : Nat} (hT : IS lt ht w vt (T37 n)) (hK : IS lk hk w vk (T37 k)) (hI : IS li hi w vi (T37 i)) (hn : n < 37) (hk37 : k < 37) (hi37 : i < 37) :
    Does Try.prog 25 [vt, vk, vi] w fun r w' => r = .tuple #[.int .i64 ((cntP k i (pairs37.getD n []) : Nat) : Int), .int .i64 0] ∧ Below w.heap.size w w' := by
  have hzT := hT.hi_le
  have hzK := hK.hi_le
  have hzI := hI.hi_le
  obtain ⟨cn1, cn2, cn3, cn4⟩ := cuts_tree hn
  obtain ⟨ck1, ck2, ck3, _⟩ := cuts_tree hk37
  obtain ⟨ci1, ci2, ci3, _⟩ := cuts_tree hi37
  have cuts := fun j => cuts_node (n := n) (j := j) hn
  have lN := (isLev_iff cn2).1
  have lK := (isLev_iff ck2).1
  have lI := (isLev_iff ci2).1
  have bN : ∀ x ∈ T37 n, 0 ≤ x ∧ x ≤ 100 := fun x hx => by
    obtain ⟨q, hq, rfl⟩ := List.getElem_of_mem hx
    have := lN.bd hq
    omega
  have injk := fun p (h : p < 37) => T37_inj (a := p) (b := k) h hk37
  have inji := fun p (h : p < 37) => T37_inj (a := p) (b := i) h hi37
  obtain ⟨PS, hPS⟩ : ∃ PS, pairs37.getD n [] = PS := ⟨_, rfl⟩
  rw [hPS] at cn4 cuts ⊢
  obtain ⟨TN, hTN⟩ : ∃ TN, T37 n = TN := ⟨_, rfl⟩
  obtain ⟨TK, hTK⟩ : ∃ TK, T37 k = TK := ⟨_, rfl⟩
  obtain ⟨TI, hTI⟩ : ∃ TI, T37 i = TI := ⟨_, rfl⟩
  rw [hTN] at hT cn1 cn2 cn3 cn4 cuts lN bN
  rw [hTK] at hK ck1 ck2 ck3 lK injk
  rw [hTI] at hI ci1 ci2 ci3 lI inji
  obtain ⟨aT, cT, hvT⟩ := hT.shape
  obtain ⟨aK, cK, hvK⟩ := hK.shape
  obtain ⟨aI, cI, hvI⟩ := hI.shape
  subst hvT hvK hvI
  have hcnt := fun l => cntP_le k i l
  refine Does.enter Try.func25 Try.ntmps25 rfl (by rfl) ?_
  repeat' (first|refine X.O ?_|refine X.A ?_|refine X.B ?_|refine X.C ?_|refine X.D ?_|refine X.E ?_|refine X.F ?_|refine X.G ?_|refine X.H ?_|refine X.I ?_|fail)
  refine WL.step (o_lit (us := [.slice aT TN.length cT, .slice aK TK.length cK, .slice aI TI.length cI]) (by rfl) (by rfl) rfl (by decide) (fun u hu => by
    simp only [List.mem_cons, List.not_mem_nil, or_false] at hu
    rcases hu with rfl | rfl | rfl <;> rfl) ?_)
  intro v1 w1 hown1 hbl1 hz1 _
  have hL : ISS 0 w1.heap.size w1 v1 [TN, TK, TI] := hown1.toSL rfl (Nat.zero_le _) (fun k hk => (hown1.block k hk).2) (Nat.le_refl _) (fun q u x hu hx => by
    match q, hu, hx with
    | 0, hu, hx => simp at hu hx; subst hu hx; exact (hT.below RI.stable hbl1 hzT).wide RI.stable (Nat.zero_le _) (by omega) (Nat.le_refl _)
    | 1, hu, hx => simp at hu hx; subst hu hx; exact (hK.below RI.stable hbl1 hzK).wide RI.stable (Nat.zero_le _) (by omega) (Nat.le_refl _)
    | 2, hu, hx => simp at hu hx; subst hu hx; exact (hI.below RI.stable hbl1 hzI).wide RI.stable (Nat.zero_le _) (by omega) (Nat.le_refl _))
  refine WL.call (areLevels_any hL) ?_
  rintro _ w2 ⟨rfl, hs2⟩
  have hz2 := hs2.size
  rw [show (!([TN, TK, TI].any fun t => !isLev t)) = true from by simp [cn2, ck2, ci2]]
  have hbl02 : Below w.heap.size w w2 := hbl1.trans (hs2.below _)
  repeat' (first|refine X.O ?_|refine X.A ?_|refine X.B ?_|refine X.C ?_|refine X.D ?_|refine X.E ?_|refine X.F ?_|refine X.G ?_|refine X.H ?_|refine X.I ?_|fail)
  refine WP.loop (fun (j : Nat) => [(0, .slice aT TN.length cT), (1, .slice aK TK.length cK), (2, .slice aI TI.length cI), (8, .int .i64 ((cntP k i (PS.take j) : Nat) : Int)), (9, .int .i64 ((j + 1 : Nat)))])
    (fun j w3 => j + 1 ≤ TN.length ∧ Below w.heap.size w w3)
    (fun j => TN.length - j) 0 ⟨rfl, rfl, rfl, X.T (by simp [cntP]), rfl, trivial⟩ ⟨lN.pos, hbl02⟩ ?_
  rintro j w3 ⟨hj1, hbl3⟩
  have hz3 := hbl3.size
  have hcj := hcnt (PS.take j)
  rw [List.length_take] at hcj
  repeat' (first|refine X.O ?_|refine X.A ?_|refine X.B ?_|refine X.C ?_|refine X.D ?_|refine X.E ?_|refine X.F ?_|refine X.G ?_|refine X.H ?_|refine X.I ?_|fail)
  first|refine X.J (fun _ => ?_) (fun _ => ?_)|refine X.L (fun _ => ?_) (fun _ => ?_)|refine X.M (fun _ => ?_) (fun _ => ?_)|refine X.R (fun _ => ?_) (fun _ => ?_)|fail
  · rename_i hlt
    have hjl : j + 1 < TN.length := by omega
    obtain ⟨c1, c2, c3, c4, p, hp, hp1, hp2, hcut⟩ := cuts j hjl
    have hst : cntP k i (PS.take (j + 1)) = cntP k i (PS.take j) + (bif Nat.beq p.1 k && Nat.beq p.2 i then 1 else 0) := by
      obtain ⟨hpl, hpe⟩ := List.getElem?_eq_some_iff.1 hp
      rw [List.take_succ_eq_append_getElem hpl, cntP_append, hpe]
      simp [cntP]
    have T3 := hT.below RI.stable hbl3 hzT
    repeat' (first|refine X.O ?_|refine X.A ?_|refine X.B ?_|refine X.C ?_|refine X.D ?_|refine X.E ?_|refine X.F ?_|refine X.G ?_|refine X.H ?_|refine X.I ?_|fail)
    refine WL.call (canonical_any 8 (by omega) T3 lN (by omega)) ?_
    intro v4 w4 hN4
    rw [cn1] at hN4
    have hz4 := hN4.2.size
    repeat' (first|refine X.O ?_|refine X.A ?_|refine X.B ?_|refine X.C ?_|refine X.D ?_|refine X.E ?_|refine X.F ?_|refine X.G ?_|refine X.H ?_|refine X.I ?_|fail)
    refine WL.call (cutAbove_any (n := j + 1) (hN4.1.toIS (Nat.zero_le _)) hjl cn3 bN (isLev_iff c1).1 (isLev_iff c2).1 c3 c4) ?_
    rintro _ w5 ⟨va, vb, rfl, hRa, hRb, hbl5⟩
    rw [hcut] at hRa hRb
    have hz5 := hbl5.size
    have hbl05 : Below w.heap.size w w5 := (hbl3.trans (Below.mono hN4.2 (by omega))).trans (Below.mono hbl5 (by omega))
    repeat' (first|refine X.O ?_|refine X.A ?_|refine X.B ?_|refine X.C ?_|refine X.D ?_|refine X.E ?_|refine X.F ?_|refine X.G ?_|refine X.H ?_|refine X.I ?_|fail)
    refine WL.call (canonical_any 8 (by omega) (hK.below RI.stable hbl05 hzK) lK (by omega)) ?_
    intro v6 w6 hN6
    rw [ck1] at hN6
    have hz6 := hN6.2.size
    have hbl06 := hbl05.trans (Below.mono hN6.2 (by omega))
    obtain ⟨_, _, hRa6⟩ := hRa.below hN6.2
    have hRb6 := hRb.below hN6.2
    refine WL.call (Equal_any hRa6 (hN6.1.toIS (Nat.zero_le _))) ?_
    rintro _ w7 ⟨rfl, hs7⟩
    have hz7 := hs7.size
    have hbl07 := hbl06.trans (hs7.below _)
    have hRb7 := hRb6.below (hs7.below _)
    by_cases h1 : p.1 = k
    · rw [decide_eq_true (show (T37 p.1, T37 p.2).1 = TK from by rw [h1]; exact hTK)]
      repeat' (first|refine X.O ?_|refine X.A ?_|refine X.B ?_|refine X.C ?_|refine X.D ?_|refine X.E ?_|refine X.F ?_|refine X.G ?_|refine X.H ?_|refine X.I ?_|fail)
      refine WL.call (canonical_any 8 (by omega) (hI.below RI.stable hbl07 hzI) lI (by omega)) ?_
      intro v8 w8 hN8
      rw [ci1] at hN8
      have hz8 := hN8.2.size
      have hbl08 := hbl07.trans (Below.mono hN8.2 (by omega))
      obtain ⟨_, _, hRb8⟩ := hRb7.below hN8.2
      refine WL.call (Equal_any hRb8 (hN8.1.toIS (Nat.zero_le _))) ?_
      rintro _ w9 ⟨rfl, hs9⟩
      have hbl09 := hbl08.trans (hs9.below _)
      by_cases h2 : p.2 = i
      · rw [decide_eq_true (show (T37 p.1, T37 p.2).2 = TI from by rw [h2]; exact hTI)]
        have hst2 : ((cntP k i (PS.take (j + 1)) : Nat) : Int) = ((cntP k i (PS.take j) : Nat) : Int) + 1 := by rw [hst, h1, h2, Nat.beq_refl, Nat.beq_refl]; simp
        repeat' (first|refine X.O ?_|refine X.A ?_|refine X.B ?_|refine X.C ?_|refine X.D ?_|refine X.E ?_|refine X.F ?_|refine X.G ?_|refine X.H ?_|refine X.I ?_|fail)
        exact ⟨j + 1, ⟨rfl, rfl, rfl, X.T hst2.symm, (by first|rfl|exact X.T (by omega)), trivial⟩, ⟨by omega, hbl09⟩, by omega⟩
      · rw [decide_eq_false (show ¬ (T37 p.1, T37 p.2).2 = TI from fun e => h2 (inji p.2 hp2 e))]
        have hst2 : ((cntP k i (PS.take (j + 1)) : Nat) : Int) = ((cntP k i (PS.take j) : Nat) : Int) := by
          have : Nat.beq p.2 i = false := by rw [← Bool.not_eq_true]; exact fun e => h2 (Nat.eq_of_beq_eq_true e)
          rw [hst, this, Bool.and_false]; simp
        repeat' (first|refine X.O ?_|refine X.A ?_|refine X.B ?_|refine X.C ?_|refine X.D ?_|refine X.E ?_|refine X.F ?_|refine X.G ?_|refine X.H ?_|refine X.I ?_|fail)
        exact ⟨j + 1, ⟨rfl, rfl, rfl, X.T hst2.symm, (by first|rfl|exact X.T (by omega)), trivial⟩, ⟨by omega, hbl09⟩, by omega⟩
    · rw [decide_eq_false (show ¬ (T37 p.1, T37 p.2).1 = TK from fun e => h1 (injk p.1 hp1 e))]
      have hst2 : ((cntP k i (PS.take (j + 1)) : Nat) : Int) = ((cntP k i (PS.take j) : Nat) : Int) := by
        have : Nat.beq p.1 k = false := by rw [← Bool.not_eq_true]; exact fun e => h1 (Nat.eq_of_beq_eq_true e)
        rw [hst, this, Bool.false_and]; simp
      repeat' (first|refine X.O ?_|refine X.A ?_|refine X.B ?_|refine X.C ?_|refine X.D ?_|refine X.E ?_|refine X.F ?_|refine X.G ?_|refine X.H ?_|refine X.I ?_|fail)
      exact ⟨j + 1, ⟨rfl, rfl, rfl, X.T hst2.symm, (by first|rfl|exact X.T (by omega)), trivial⟩, ⟨by omega, hbl07⟩, by omega⟩
  · rename_i hge
    have hje : PS.length = j := by omega
    have htk : PS.take j = PS := by rw [← hje, List.take_length]
    rw [htk]
    repeat' (first|refine X.O ?_|refine X.A ?_|refine X.B ?_|refine X.C ?_|refine X.D ?_|refine X.E ?_|refine X.F ?_|refine X.G ?_|refine X.H ?_|refine X.I ?_|fail)
    refine ⟨_, ret2 rfl (by rfl) (by rfl), ?_⟩
    exact ⟨rfl, hbl3⟩
end Go.Proofs
