/- The numbers of nodes, and raised maps, the program's. -/
import Derived.Test.YtncilhecdihmeaaGreatM4
import Derived.Test.YtncilhecdihmeaaGreatD5
set_option maxRecDepth 8000
namespace Go.Rk
open Go.Fw Go.Proofs
theorem treesTo8_at {i : Nat} (h : i < (treesTo 6).length) (h8 : i < (treesTo8 8).length) : (treesTo8 8)[i] = (treesTo 6)[i] := by
  obtain ⟨r, hr⟩ := treesTo8_pre (n := 6) (by omega)
  simp only [hr]
  exact List.getElem_append_left h
theorem treesTo8_long {i : Nat} (h : i < (treesTo 6).length) : i < (treesTo8 8).length := by
  obtain ⟨r, hr⟩ := treesTo8_pre (n := 6) (by omega)
  rw [hr, List.length_append]; omega
def goodBr : Bool := (treesTo 6).all fun t => decide ((branchesL t).length ≤ 6) && (branchesL t).all fun b => (treesTo 6).contains b
set_option maxRecDepth 100000 in
theorem goodBr_true : goodBr = true := by kernel_rfl
theorem goodBr_of {t : List Int} (ht : t ∈ treesTo 6) : (branchesL t).length ≤ 6 ∧ ∀ b ∈ branchesL t, b ∈ treesTo 6 := by
  have h := List.all_eq_true.1 goodBr_true t ht
  rw [Bool.and_eq_true, decide_eq_true_eq] at h
  exact ⟨h.1, fun b hb => by have := List.all_eq_true.1 h.2 b hb; simpa using this⟩
/-- A map at the branches of trees. -/
def raiseL (a : List Int) : List Int := 0 :: (treesTo 6).map fun t => prodR modR a ((branchesL t).map placeT)
theorem raiseL_len (a : List Int) : (raiseL a).length = 38 := by unfold raiseL; rw [List.length_cons, List.length_map, treesTo_len]
theorem raiseL_get (a : List Int) {i : Nat} (h : i < (treesTo 6).length) (h2 : i + 1 < (raiseL a).length) : (raiseL a)[i + 1] = prodR modR a ((branchesL (treesTo 6)[i]).map placeT) := by simp [raiseL]
end Go.Rk
namespace Go.Proofs
open Go Go.Fw Go.RowKit Go.Rk
theorem sizes9_any (w : World) : Does Tryz.prog 59 [] w fun r w' => NewI w r w' placesN := by
  have hpl := placesN_len
  have htl : (treesTo 6).length = 37 := treesTo_len
  have hpg := fun i h h1 => placesN_get (i := i + 1) h (by omega) h1
  have hp1 : placesN.take 1 = [0] := rfl
  have hpb := fun i h => places_le (i := i) h
  obtain ⟨K, hK⟩ : ∃ K, placesN = K := ⟨_, rfl⟩
  simp only [hK] at hpl hpg hp1 hpb ⊢
  refine Does.enter Tryz.func59 Tryz.ntmps59 rfl (by rfl) ?_
  repeat' (first|refine X.O ?_|refine X.A ?_|refine X.B ?_|refine X.C ?_|refine X.D ?_|refine X.E ?_|refine X.F ?_|refine X.G ?_|refine X.H ?_|refine X.I ?_|fail)
  refine WL.step (o_lit (us := [.int .i64 0]) (by rfl) (by rfl) rfl (by decide) (one1 rfl) ?_)
  intro v1 w1 hown1 hbl1 hz1 _
  repeat' (first|refine X.O ?_|refine X.A ?_|refine X.B ?_|refine X.C ?_|refine X.D ?_|refine X.E ?_|refine X.F ?_|refine X.G ?_|refine X.H ?_|refine X.I ?_|fail)
  refine WP.loop (fun (s : Nat × Value) => [(1, s.2), (2, .int .i64 (s.1 : Nat))])
    (fun s w2 => s.1 ≤ 37 ∧ Own w.heap.size 2 w2 s.2 (Ints (K.take (s.1 + 1))) ∧ Below w.heap.size w w2)
    (fun s => 37 - s.1) (0, v1) ⟨rfl, rfl, trivial⟩ ⟨by dsimp only; omega, by rw [hp1]; exact hown1, hbl1⟩ ?_
  rintro ⟨i, vo⟩ w2 ⟨hi1, hown2, hbl2⟩
  dsimp only at hi1 hown2 ⊢
  have hz2 := hbl2.size
  repeat' (first|refine X.O ?_|refine X.A ?_|refine X.B ?_|refine X.C ?_|refine X.D ?_|refine X.E ?_|refine X.F ?_|refine X.G ?_|refine X.H ?_|refine X.I ?_|fail)
  first|refine X.J (fun _ => ?_) (fun _ => ?_)|refine X.L (fun _ => ?_) (fun _ => ?_)|refine X.M (fun _ => ?_) (fun _ => ?_)|refine X.R (fun _ => ?_) (fun _ => ?_)|fail
  · rename_i hlt
    have hli : i < (treesTo 6).length := by omega
    have hlk : i + 1 < K.length := by omega
    have hlen := hpg i hlk (by omega)
    have hbd := hpb (i + 1) hlk
    repeat' (first|refine X.O ?_|refine X.A ?_|refine X.B ?_|refine X.C ?_|refine X.D ?_|refine X.E ?_|refine X.F ?_|refine X.G ?_|refine X.H ?_|refine X.I ?_|fail)
    refine WL.call (TreeAt_any i (treesTo8_long hli) (by omega) _) ?_
    rintro _ w3 ⟨v3, rfl, hT, hc3⟩
    have hz3 := hc3.size
    rw [treesTo8_at hli] at hT
    simp only [Nat.add_sub_cancel] at hlen
    have hpos := (treesTo_ok (n := 6) (by omega) _ (List.getElem_mem hli)).1.pos
    obtain ⟨T, hTe⟩ : ∃ T, (treesTo 6)[i] = T := ⟨_, rfl⟩
    rw [hTe] at hT hlen hpos
    obtain ⟨a3, c3, hv3⟩ := hT.shape
    subst hv3
    have hown3 := hown2.below (hc3.below (Nat.le_refl _) (Or.inr (Nat.le_refl _))) (Nat.le_refl _)
    repeat' (first|refine X.O ?_|refine X.A ?_|refine X.B ?_|refine X.C ?_|refine X.D ?_|refine X.E ?_|refine X.F ?_|refine X.G ?_|refine X.H ?_|refine X.I ?_|fail)
    refine WP.condD (by rfl) (fun (hbad : (T.length : Int) = 0) => False.elim (by omega)) (fun _ => ?_)
    repeat' (first|refine X.O ?_|refine X.A ?_|refine X.B ?_|refine X.C ?_|refine X.D ?_|refine X.E ?_|refine X.F ?_|refine X.G ?_|refine X.H ?_|refine X.I ?_|fail)
    refine o_append1 (u := .int .i64 (T.length : Nat)) (fun _ => by rfl) (by rfl) hown3 rfl (by rw [Ints_length, List.length_take]; unfold maxLen; omega) (by rw [Ints_length, List.length_take]; omega) (by omega) ?_
    intro p3 v6 w6 hown6 hbl6 _ hz6 _
    rw [← hlen, ← Ints_snocG hlk] at hown6
    repeat' (first|refine X.O ?_|refine X.A ?_|refine X.B ?_|refine X.C ?_|refine X.D ?_|refine X.E ?_|refine X.F ?_|refine X.G ?_|refine X.H ?_|refine X.I ?_|fail)
    exact ⟨(i + 1, v6), ⟨rfl, (by first|rfl|exact X.T (by omega)), trivial⟩, ⟨by dsimp only; omega, hown6, (hbl2.trans (hc3.below (by omega) (Or.inr (by omega)))).trans (Below.mono hbl6 (by omega))⟩, by dsimp only; omega⟩
  · rename_i hge
    have hie : i = 37 := by omega
    subst hie
    rw [List.take_of_length_le (by omega)] at hown2
    repeat' (first|refine X.O ?_|refine X.A ?_|refine X.B ?_|refine X.C ?_|refine X.D ?_|refine X.E ?_|refine X.F ?_|refine X.G ?_|refine X.H ?_|refine X.I ?_|fail)
    refine ⟨_, ret1 rfl (by rfl), ?_⟩
    exact ⟨hown2, hbl2⟩
set_option maxHeartbeats 1000000 in
theorem raiseMap_any {lo hi la ha : Nat} {w : World} {vf va : Value} {a : List Int} (hF : FormsI lo hi w vf) (hA : IS la ha w va a) (hal : a.length = 38) (haa : allN a = true) :
    Does Tryz.prog 113 [vf, va] w fun r w' => NewI w r w' (raiseL a) := by
  obtain ⟨vt, vc, rfl, hT, _⟩ := hF
  have hzT := hT.hi_le
  have hzA := hA.hi_le
  have htl : (treesTo 6).length = 37 := treesTo_len
  obtain ⟨at', ct, hvt⟩ := hT.shape
  rw [htl] at hvt
  subst hvt
  have hkl := raiseL_len a
  have hkg := fun i h h2 => raiseL_get a (i := i) h h2
  have hk0 : (raiseL a).take 1 = [0] := rfl
  obtain ⟨K, hK⟩ : ∃ K, raiseL a = K := ⟨_, rfl⟩
  simp only [hK] at hkl hkg hk0 ⊢
  refine Does.enter Tryz.func113 Tryz.ntmps113 rfl (by rfl) ?_
  repeat' (first|refine X.O ?_|refine X.A ?_|refine X.B ?_|refine X.C ?_|refine X.D ?_|refine X.E ?_|refine X.F ?_|refine X.G ?_|refine X.H ?_|refine X.I ?_|fail)
  refine WL.step (o_box (by rfl) ?_)
  intro w1 hb1 hbl1 hz1
  have hb1' : Blk w1 w.heap.size [.slice at' 37 ct, vc] 55 := hb1
  repeat' (first|refine X.O ?_|refine X.A ?_|refine X.B ?_|refine X.C ?_|refine X.D ?_|refine X.E ?_|refine X.F ?_|refine X.G ?_|refine X.H ?_|refine X.I ?_|fail)
  refine WL.step (o_lit (us := [.int .i64 0]) (by rfl) (by rfl) rfl (by decide) (one1 rfl) ?_)
  intro v2 w2 hown2 hbl2 hz2 _
  have hown20 : Own w1.heap.size 2 w2 v2 (Ints (K.take 1)) := by rw [hk0]; exact hown2
  repeat' (first|refine X.O ?_|refine X.A ?_|refine X.B ?_|refine X.C ?_|refine X.D ?_|refine X.E ?_|refine X.F ?_|refine X.G ?_|refine X.H ?_|refine X.I ?_|fail)
  refine WL.fld (hb1'.below hbl2 (by omega)) ?_
  intro q0
  repeat' (first|refine X.O ?_|refine X.A ?_|refine X.B ?_|refine X.C ?_|refine X.D ?_|refine X.E ?_|refine X.F ?_|refine X.G ?_|refine X.H ?_|refine X.I ?_|fail)
  refine WP.loop (fun (s : Nat × Value) => [(1, va), (2, .pointer (some ⟨w.heap.size, 0, none⟩)), (5, s.2), (13, .slice at' 37 ct), (14, .int .i64 37), (15, .int .i64 (s.1 : Nat))])
    (fun s w3 => s.1 ≤ 37 ∧ Own w1.heap.size 2 w3 s.2 (Ints (K.take (s.1 + 1))) ∧ Below w1.heap.size w1 w3)
    (fun s => 37 - s.1) (0, v2) ⟨rfl, rfl, rfl, rfl, rfl, rfl, trivial⟩ ⟨by dsimp only; omega, hown20, hbl2⟩ ?_
  rintro ⟨i, vo⟩ w3 ⟨hi1, hown3, hbl3⟩
  dsimp only at hi1 hown3 ⊢
  have hz3 := hbl3.size
  have hbl03 : Below w.heap.size w w3 := hbl1.trans (Below.mono hbl3 (by omega))
  repeat' (first|refine X.O ?_|refine X.A ?_|refine X.B ?_|refine X.C ?_|refine X.D ?_|refine X.E ?_|refine X.F ?_|refine X.G ?_|refine X.H ?_|refine X.I ?_|fail)
  first|refine X.J (fun _ => ?_) (fun _ => ?_)|refine X.L (fun _ => ?_) (fun _ => ?_)|refine X.M (fun _ => ?_) (fun _ => ?_)|refine X.R (fun _ => ?_) (fun _ => ?_)|fail
  · rename_i hlt
    have hli : i < (treesTo 6).length := by omega
    have hlk : i + 1 < K.length := by omega
    have hkk := hkg i hli hlk
    have hmem := List.getElem_mem hli
    obtain ⟨hgl, hgb⟩ := goodBr_of hmem
    have hok := treesTo_ok (n := 6) (by omega) _ hmem
    repeat' (first|refine X.O ?_|refine X.A ?_|refine X.B ?_|refine X.C ?_|refine X.D ?_|refine X.E ?_|refine X.F ?_|refine X.G ?_|refine X.H ?_|refine X.I ?_|fail)
    refine WL.ixload (j := i) (hT.below IS.stable hbl03 hzT) (List.getElem?_eq_getElem hli) ?_
    intro p1 u hu
    obtain ⟨t, ht⟩ : ∃ t, (treesTo 6)[i] = t := ⟨_, rfl⟩
    rw [ht] at hkk hgl hgb hok hmem
    replace hu : IS lo hi w3 u t := by rw [← ht]; exact hu
    repeat' (first|refine X.O ?_|refine X.A ?_|refine X.B ?_|refine X.C ?_|refine X.D ?_|refine X.E ?_|refine X.F ?_|refine X.G ?_|refine X.H ?_|refine X.I ?_|fail)
    refine WL.step (o_lit (us := []) (by rfl) (by rfl) rfl (by decide) one0 ?_)
    intro v4 w4 hown4 hbl4 hz4 _
    repeat' (first|refine X.O ?_|refine X.A ?_|refine X.B ?_|refine X.C ?_|refine X.D ?_|refine X.E ?_|refine X.F ?_|refine X.G ?_|refine X.H ?_|refine X.I ?_|fail)
    refine WL.call (branchesOf_any (hu.below RI.stable hbl4 (by omega)) hok.1 (by omega)) ?_
    rintro v5 w5 ⟨hS5, hbl5⟩
    have hR5 := OwSS.rd hS5
    have hz5 := hbl5.size
    obtain ⟨B, hB⟩ : ∃ B, branchesL t = B := ⟨_, rfl⟩
    rw [hB] at hkk hgl hgb hR5
    obtain ⟨a5, c5, hv5⟩ := hR5.shape
    subst hv5
    have hown5 := hown4.below hbl5 (Nat.le_refl _)
    have hbl35 : Below w3.heap.size w3 w5 := hbl4.trans (Below.mono hbl5 (by omega))
    repeat' (first|refine X.O ?_|refine X.A ?_|refine X.B ?_|refine X.C ?_|refine X.D ?_|refine X.E ?_|refine X.F ?_|refine X.G ?_|refine X.H ?_|refine X.I ?_|fail)
    refine WP.loop (fun (s : Nat × Value) => [(1, va), (2, .pointer (some ⟨w.heap.size, 0, none⟩)), (5, vo), (8, s.2), (13, .slice at' 37 ct), (14, .int .i64 37), (15, .int .i64 (i : Nat)), (21, .slice a5 B.length c5), (22, .int .i64 (B.length : Nat)), (23, .int .i64 (s.1 : Nat))])
      (fun s w6 => s.1 ≤ B.length ∧ Own w3.heap.size 3 w6 s.2 (Ints (((B.take s.1).map placeT).map fun (k : Nat) => (k : Int))) ∧ Below w3.heap.size w3 w6 ∧ ISS w4.heap.size w5.heap.size w6 (.slice a5 B.length c5) B ∧ ∀ k, s.2.ownBlock = some k → k < w4.heap.size ∨ w5.heap.size ≤ k)
      (fun s => B.length - s.1) (0, v4) ⟨rfl, rfl, rfl, rfl, rfl, rfl, rfl, rfl, rfl, rfl, trivial⟩ ⟨by dsimp only; omega, hown5, hbl35, hR5, fun k hk => Or.inl (hown4.block k hk).2⟩ ?_
    rintro ⟨j, vp⟩ w6 ⟨hj1, hown6, hbl6, hR6, hob6⟩
    dsimp only at hj1 hown6 hob6 ⊢
    have hz6 := hbl6.size
    have hz56 := hR6.hi_le
    have hbl06 : Below w.heap.size w w6 := hbl03.trans (Below.mono hbl6 (by omega))
    repeat' (first|refine X.O ?_|refine X.A ?_|refine X.B ?_|refine X.C ?_|refine X.D ?_|refine X.E ?_|refine X.F ?_|refine X.G ?_|refine X.H ?_|refine X.I ?_|fail)
    first|refine X.J (fun _ => ?_) (fun _ => ?_)|refine X.L (fun _ => ?_) (fun _ => ?_)|refine X.M (fun _ => ?_) (fun _ => ?_)|refine X.R (fun _ => ?_) (fun _ => ?_)|fail
    · rename_i hltj
      have hlj : j < B.length := by omega
      repeat' (first|refine X.O ?_|refine X.A ?_|refine X.B ?_|refine X.C ?_|refine X.D ?_|refine X.E ?_|refine X.F ?_|refine X.G ?_|refine X.H ?_|refine X.I ?_|fail)
      refine WL.ixload (j := j) hR6 (List.getElem?_eq_getElem hlj) ?_
      intro p2 ub hub
      have hbm := hgb _ (List.getElem_mem hlj)
      repeat' (first|refine X.O ?_|refine X.A ?_|refine X.B ?_|refine X.C ?_|refine X.D ?_|refine X.E ?_|refine X.F ?_|refine X.G ?_|refine X.H ?_|refine X.I ?_|fail)
      refine WL.step (o_loadS (by rfl) ((hb1'.below hbl3 (by omega)).below hbl6 (by omega)) (by rfl) ?_)
      repeat' (first|refine X.O ?_|refine X.A ?_|refine X.B ?_|refine X.C ?_|refine X.D ?_|refine X.E ?_|refine X.F ?_|refine X.G ?_|refine X.H ?_|refine X.I ?_|fail)
      refine WL.call (place_any (hT.below IS.stable hbl06 hzT) hub hbm) ?_
      rintro _ w7 ⟨rfl, hbl7⟩
      have hz7 := hbl7.size
      refine o_append1K (u := .int .i64 (placeT B[j] : Nat)) (fun _ => by rfl) (by rfl) (hown6.below hbl7 (Nat.le_refl _)) rfl (by simp [Ints, maxLen]; omega) (by simp [Ints]; omega) (by omega) ?_
      intro p3 v8 w8 hown8 hbl8 hkp8 hz8 hob8
      have hR7 := hR6.below IS.stable hbl7 hz56
      repeat' (first|refine X.O ?_|refine X.A ?_|refine X.B ?_|refine X.C ?_|refine X.D ?_|refine X.E ?_|refine X.F ?_|refine X.G ?_|refine X.H ?_|refine X.I ?_|fail)
      refine ⟨(j + 1, v8), ⟨rfl, rfl, rfl, rfl, rfl, rfl, rfl, rfl, rfl, (by first|rfl|exact X.T (by omega)), trivial⟩, ⟨by dsimp only; omega, ?_, (hbl6.trans (Below.mono hbl7 (by omega))).trans (Below.mono hbl8 (by omega)), ?_, ?_⟩, by dsimp only; omega⟩
      · dsimp only
        rw [List.take_succ_eq_append_getElem hlj, List.map_append, List.map_append, Ints_append]
        exact hown8
      · refine SL.same IS.stable hR7 (fun k hk1 hk2 => hkp8 k (by omega) (fun e => ?_)) (by omega)
        have := hob6 k e
        omega
      · intro k hk
        rcases hob8 k hk with e | e
        · exact hob6 k e
        · exact Or.inr (by omega)
    · rename_i hgej
      have hje : j = B.length := by omega
      subst hje
      rw [List.take_length] at hown6
      repeat' (first|refine X.O ?_|refine X.A ?_|refine X.B ?_|refine X.C ?_|refine X.D ?_|refine X.E ?_|refine X.F ?_|refine X.G ?_|refine X.H ?_|refine X.I ?_|fail)
      refine WL.call (valueOf_any (hA.below RI.stable hbl06 hzA) (hown6.toIS (Nat.le_refl _)) haa (fun k hk => by
        obtain ⟨b, hb, rfl⟩ := List.mem_map.1 hk
        have := placeT_le (hgb b hb)
        omega) (by rw [List.length_map]; exact hgl)) ?_
      rintro _ w7 ⟨rfl, hs7⟩
      have hz7 := hs7.size
      refine o_append1 (u := .int .i64 (prodR modR a (B.map placeT))) (fun _ => by rfl) (by rfl) ((hown3.below hbl6 (Nat.le_refl _)).still hs7) rfl (by rw [Ints_length, List.length_take]; unfold maxLen; omega) (by rw [Ints_length, List.length_take]; omega) (by omega) ?_
      intro p3 v8 w8 hown8 hbl8 _ hz8 _
      rw [← hkk, ← Ints_snocG hlk] at hown8
      repeat' (first|refine X.O ?_|refine X.A ?_|refine X.B ?_|refine X.C ?_|refine X.D ?_|refine X.E ?_|refine X.F ?_|refine X.G ?_|refine X.H ?_|refine X.I ?_|fail)
      exact ⟨(i + 1, v8), ⟨rfl, rfl, rfl, rfl, rfl, (by first|rfl|exact X.T (by omega)), trivial⟩, ⟨by dsimp only; omega, hown8, ((hbl3.trans (Below.mono hbl6 (by omega))).trans (hs7.below _)).trans (Below.mono hbl8 (by omega))⟩, by dsimp only; omega⟩
  · rename_i hge
    have hie : i = 37 := by omega
    subst hie
    rw [List.take_of_length_le (by omega)] at hown3
    repeat' (first|refine X.O ?_|refine X.A ?_|refine X.B ?_|refine X.C ?_|refine X.D ?_|refine X.E ?_|refine X.F ?_|refine X.G ?_|refine X.H ?_|refine X.I ?_|fail)
    refine ⟨_, ret1 rfl (by rfl), ?_⟩
    exact ⟨hown3.lower (by omega), hbl03⟩
end Go.Proofs
namespace Go.Proofs
open Go Go.Fw Go.RowKit Go.Rk
theorem RaiseMap_rd {w : World} {v : Value} {a : List Int} (h : RD w v a) (ha : isMap a = true) : Does Tryz.prog 61 [v] w fun r w' => ∃ v', r = .tuple #[v', .int .i64 0] ∧ NewI w v' w' (raiseL a) := by
  obtain ⟨lo, hi, h⟩ := h
  have hz := h.hi_le
  refine Does.enter Tryz.func61 Tryz.ntmps61 rfl (by rfl) ?_
  repeat' (first|refine X.O ?_|refine X.A ?_|refine X.B ?_|refine X.C ?_|refine X.D ?_|refine X.E ?_|refine X.F ?_|refine X.G ?_|refine X.H ?_|refine X.I ?_|fail)
  refine WL.call (IsMap_any h) ?_
  rintro _ w1 ⟨rfl, hs1⟩
  rw [ha]
  have hz1 := hs1.size
  repeat' (first|refine X.O ?_|refine X.A ?_|refine X.B ?_|refine X.C ?_|refine X.D ?_|refine X.E ?_|refine X.F ?_|refine X.G ?_|refine X.H ?_|refine X.I ?_|fail)
  refine WL.call (newForms_any _) ?_
  rintro v3 w3 ⟨hF, hbl3⟩
  have hbl03 : Below w.heap.size w w3 := (hs1.below _).trans (Below.mono hbl3 (by omega))
  repeat' (first|refine X.O ?_|refine X.A ?_|refine X.B ?_|refine X.C ?_|refine X.D ?_|refine X.E ?_|refine X.F ?_|refine X.G ?_|refine X.H ?_|refine X.I ?_|fail)
  refine WL.call (raiseMap_any hF (h.below RI.stable hbl03 hz) (isMap_38 ha) (isMap_all ha)) ?_
  intro v4 w4 hN4
  repeat' (first|refine X.O ?_|refine X.A ?_|refine X.B ?_|refine X.C ?_|refine X.D ?_|refine X.E ?_|refine X.F ?_|refine X.G ?_|refine X.H ?_|refine X.I ?_|fail)
  refine ⟨_, ret2 rfl (by rfl) (by rfl), ?_⟩
  exact ⟨v4, rfl, hN4.trans hbl03⟩
end Go.Proofs
namespace Go.Rk
open Go.Fw Go.Proofs
theorem exact_chr : Chr exactL := ⟨mapOf exactL_len exactL_all, rfl⟩
def raiseB : Bool := (List.range 38).all fun i => i == 0 || nm (placesN.getD i 0 * exactL.getD i 0) == (raiseL exactL).getD i 0
theorem raiseB_true : raiseB = true := by kernel_rfl
theorem raise_exact {i : Nat} (h : i < 38) (h0 : i ≠ 0) (h1 : i < placesN.length) (h2 : i < exactL.length) (h3 : i < (raiseL exactL).length) : nm (placesN[i] * exactL[i]) = (raiseL exactL)[i] := by
  have e := List.all_eq_true.1 raiseB_true i (List.mem_range.2 h)
  rw [Bool.or_eq_true, beq_iff_eq, beq_iff_eq] at e
  rcases e with e | e
  · exact absurd e h0
  · rw [List.getD_eq_getElem?_getD, List.getD_eq_getElem?_getD, List.getD_eq_getElem?_getD, List.getElem?_eq_getElem h1, List.getElem?_eq_getElem h2, List.getElem?_eq_getElem h3] at e
    exact e
def exactP : List Poly := exactL.map numP
def exactB : Bool := eqPolys (convR polyR cutLit (gradeR polyR placesK exactP (varP 111)) (gradeR polyR placesK exactP (varP 112))) (gradeR polyR placesK exactP (addP (varP 111) (varP 112)))
theorem exactB_true : exactB = true := by kernel_rfl
theorem exactP_map (v : Nat → Int) : exactP.map (hP v) = exactL := by
  refine List.ext_getElem (by unfold exactP; rw [List.length_map, List.length_map]) fun i h1 h2 => ?_
  simp only [exactP, List.getElem_map]
  rw [hP_num]
  have := allN_get exactL_all h2
  omega
/-- The exact map, scaled by two numbers. -/
theorem exact_add {r t : Int} (hr : isN r = true) (ht : isN t = true) : convR modR cutLit (scaleML exactL r) (scaleML exactL t) = scaleML exactL (nm (r + t)) := by
  have h := congrArg (List.map (hP (val3 [] [] [] r t))) (eqPolys_eq exactB_true)
  have H := homP (val3 [] [] [] r t)
  have hs : hP (val3 [] [] [] r t) (addP (varP 111) (varP 112)) = nm (r + t) := by
    rw [show addP (varP 111) (varP 112) = polyR.add (varP 111) (varP 112) from rfl, H.add, val3_x, val3_y]
    show (r % 10007 + t % 10007) % 10007 = _
    unfold nm
    rw [← Int.add_emod]
  have hr2 : r % 10007 = r := by have := isN_bd hr; omega
  have ht2 : t % 10007 = t := by have := isN_bd ht; omega
  rw [H.conv, H.grade, H.grade, H.grade, exactP_map, hs, val3_x, val3_y, hr2, ht2, ← scaleML_grade, ← scaleML_grade, ← scaleML_grade] at h
  exact h
def powerB : Bool := (List.range 9).all fun n => powZ exactL ((n : Int) - 4) == scaleML exactL (nm ((n : Int) - 4))
theorem powerB_true : powerB = true := by kernel_rfl
theorem power_exact {k : Int} (h1 : -4 ≤ k) (h2 : k ≤ 4) : powZ exactL k = scaleML exactL (nm k) := by
  have e := List.all_eq_true.1 powerB_true (k + 4).toNat (List.mem_range.2 (by omega))
  rw [beq_iff_eq, show (((k + 4).toNat : Nat) : Int) - 4 = k from by omega] at e
  exact e
theorem exact_order : orderOfMap exactL = (6, 0) := by
  unfold orderOfMap
  rw [if_pos exact_chr.code]
  have : (agreeL exactL exactL == 6) = true := by kernel_rfl
  rw [beq_iff_eq.1 this]
end Go.Rk
