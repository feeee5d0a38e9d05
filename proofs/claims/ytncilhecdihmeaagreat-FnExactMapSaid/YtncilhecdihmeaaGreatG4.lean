/- The exact map, and the order of a character, both sides. -/
import Derived.Test.YtncilhecdihmeaaGreatG3
set_option maxRecDepth 8000
namespace Go.Rk
open Go.Fw Go.Proofs
def exactL : List Int := 1 :: (treesTo 6).map fun t => powN (nm (densL 8 t)) 10005
theorem exactL_len : exactL.length = 38 := by unfold exactL; rw [List.length_cons, List.length_map, treesTo_len]
theorem cons_map_get {α : Type} (x : Int) (l : List α) (f : α → Int) {i : Nat} (h : i < l.length) (h2 : i + 1 < (x :: l.map f).length) : (x :: l.map f)[i + 1] = f l[i] := by simp
theorem exactL_get {i : Nat} (h : i < (treesTo 6).length) (h2 : i + 1 < exactL.length) : exactL[i + 1] = powN (nm (densL 8 (treesTo 6)[i])) 10005 := cons_map_get 1 (treesTo 6) (fun t => powN (nm (densL 8 t)) 10005) h h2
theorem exactL_all : allN exactL = true := allN_of fun y hy => by
  unfold exactL at hy
  rcases List.mem_cons.1 hy with rfl | hy
  · kernel_rfl
  · obtain ⟨t, _, rfl⟩ := List.mem_map.1 hy
    have := powN_bd (nm (densL 8 t)) 10005
    simp [isN]; exact this
theorem isMap_of {a : List Int} (h : a.length = 38) (h2 : allN a = true) : isMap a = true := by unfold isMap; rw [Bool.and_eq_true, decide_eq_true_eq]; exact ⟨h, h2⟩
def orderOfMap (a : List Int) : Int × Int := if chCode a = 0 then (agreeL a exactL, 0) else (0, chCode a)
theorem unit_fill : Ints unitM = Ints (exactL.take 1) ++ List.replicate (exactL.length - 1) (.int .i64 0) := by
  rw [exactL_len]
  rfl
theorem getD_get {a : List Int} (h : 0 < a.length) : a.getD 0 0 = a[0] := by rw [List.getD_eq_getElem?_getD, List.getElem?_eq_getElem h]; rfl
theorem chCode_cases (a : List Int) : (chCode a = 0 ∧ isMap a = true ∧ a.getD 0 0 = 1) ∨ (chCode a = 5 ∧ isMap a = true ∧ a.getD 0 0 ≠ 1) ∨ (chCode a = 1 ∧ isMap a = false) := by
  unfold chCode
  cases h : isMap a with
  | false => rw [if_neg (by decide)]; exact Or.inr (Or.inr ⟨rfl, rfl⟩)
  | true =>
    rw [if_pos rfl]
    by_cases h1 : a.getD 0 0 = 1
    · rw [if_neg (fun h2 => h2 h1)]; exact Or.inl ⟨rfl, rfl, h1⟩
    · rw [if_pos h1]; exact Or.inr (Or.inl ⟨rfl, rfl, h1⟩)
end Go.Rk
namespace Go.Proofs
open Go Go.Fw Go.RowKit Go.Rk
theorem UnitMap_any (w : World) : Does Tryz.prog 53 [] w fun r w' => NewI w r w' unitM := by
  refine Does.enter Tryz.func53 Tryz.ntmps53 rfl (by rfl) ?_
  repeat' (first|refine X.O ?_|refine X.A ?_|refine X.B ?_|refine X.C ?_|refine X.D ?_|refine X.E ?_|refine X.F ?_|refine X.G ?_|refine X.H ?_|refine X.I ?_|fail)
  refine WL.step (o_make (n := 38) (by rfl) (by rfl) (by omega) (by unfold maxLen; omega) ?_)
  intro v1 w1 hown1 hbl1 hz1
  repeat' (first|refine X.O ?_|refine X.A ?_|refine X.B ?_|refine X.C ?_|refine X.D ?_|refine X.E ?_|refine X.F ?_|refine X.G ?_|refine X.H ?_|refine X.I ?_|fail)
  refine WL.ixstore (j := 0) (u := .int .i64 1) hown1 (by rw [List.length_replicate]; omega) ?_
  intro p w2 hown2 hbl2 hz2 hf2
  repeat' (first|refine X.O ?_|refine X.A ?_|refine X.B ?_|refine X.C ?_|refine X.D ?_|refine X.E ?_|refine X.F ?_|refine X.G ?_|refine X.H ?_|refine X.I ?_|fail)
  refine ⟨_, ret1 rfl (by rfl), ?_⟩
  exact ⟨hown2, hbl1.trans hbl2⟩
theorem l07Unit_any (w : World) : Does Tryz.prog 138 [] w fun r w' => NewI w r w' unitM := by
  refine Does.enter Tryz.func138 Tryz.ntmps138 rfl (by rfl) ?_
  repeat' (first|refine X.O ?_|refine X.A ?_|refine X.B ?_|refine X.C ?_|refine X.D ?_|refine X.E ?_|refine X.F ?_|refine X.G ?_|refine X.H ?_|refine X.I ?_|fail)
  refine WL.step (o_make (n := 38) (by rfl) (by rfl) (by omega) (by unfold maxLen; omega) ?_)
  intro v1 w1 hown1 hbl1 hz1
  repeat' (first|refine X.O ?_|refine X.A ?_|refine X.B ?_|refine X.C ?_|refine X.D ?_|refine X.E ?_|refine X.F ?_|refine X.G ?_|refine X.H ?_|refine X.I ?_|fail)
  refine WL.ixstore (j := 0) (u := .int .i64 1) hown1 (by rw [List.length_replicate]; omega) ?_
  intro p w2 hown2 hbl2 hz2 hf2
  repeat' (first|refine X.O ?_|refine X.A ?_|refine X.B ?_|refine X.C ?_|refine X.D ?_|refine X.E ?_|refine X.F ?_|refine X.G ?_|refine X.H ?_|refine X.I ?_|fail)
  refine ⟨_, ret1 rfl (by rfl), ?_⟩
  exact ⟨hown2, hbl1.trans hbl2⟩
theorem exactMapL_any {lo hi : Nat} {w : World} {vf : Value} (hF : FormsI lo hi w vf) : Does Tryz.prog 78 [vf] w fun r w' => NewI w r w' exactL := by
  obtain ⟨vt, vc, rfl, hT, _⟩ := hF
  have hzT := hT.hi_le
  obtain ⟨at2, ct, hvt⟩ := hT.shape
  rw [treesTo_len] at hvt
  subst hvt
  have hkl := exactL_len
  have hkg := fun i h h2 => exactL_get (i := i) h h2
  have huf := unit_fill
  obtain ⟨K, hK⟩ : ∃ K, exactL = K := ⟨_, rfl⟩
  simp only [hK] at hkl hkg huf ⊢
  refine Does.enter Tryz.func78 Tryz.ntmps78 rfl (by rfl) ?_
  repeat' (first|refine X.O ?_|refine X.A ?_|refine X.B ?_|refine X.C ?_|refine X.D ?_|refine X.E ?_|refine X.F ?_|refine X.G ?_|refine X.H ?_|refine X.I ?_|fail)
  refine WL.step (o_box (by rfl) ?_)
  intro w1 hb1 hbl1 hz1
  have hb1' : Blk w1 w.heap.size [.slice at2 37 ct, vc] _ := hb1
  repeat' (first|refine X.O ?_|refine X.A ?_|refine X.B ?_|refine X.C ?_|refine X.D ?_|refine X.E ?_|refine X.F ?_|refine X.G ?_|refine X.H ?_|refine X.I ?_|fail)
  refine WL.call (UnitMap_any _) ?_
  intro v2 w2 hN2
  have hz2 := hN2.2.size
  obtain ⟨a2, c2, hv2, _⟩ := hN2.1.shape
  rw [Ints_length, unitM_len] at hv2
  subst hv2
  repeat' (first|refine X.O ?_|refine X.A ?_|refine X.B ?_|refine X.C ?_|refine X.D ?_|refine X.E ?_|refine X.F ?_|refine X.G ?_|refine X.H ?_|refine X.I ?_|fail)
  refine WL.fld (hb1'.below hN2.2 (by omega)) ?_
  intro q0
  repeat' (first|refine X.O ?_|refine X.A ?_|refine X.B ?_|refine X.C ?_|refine X.D ?_|refine X.E ?_|refine X.F ?_|refine X.G ?_|refine X.H ?_|refine X.I ?_|fail)
  refine WP.loop (fun (i : Nat) => [(3, .slice a2 38 c2), (8, .slice at2 37 ct), (9, .int .i64 37), (10, .int .i64 (i : Nat))])
    (fun i w3 => i ≤ 37 ∧ Own w1.heap.size 2 w3 (.slice a2 38 c2) (Ints (K.take (i + 1)) ++ List.replicate (K.length - (i + 1)) (.int .i64 0)) ∧ Below w1.heap.size w2 w3)
    (fun i => 37 - i) 0 ⟨rfl, rfl, rfl, rfl, trivial⟩ ⟨by omega, by rw [← huf]; exact hN2.1, Below.refl _ _⟩ ?_
  rintro i w3 ⟨hi1, hown3, hbl3⟩
  have hz3 := hbl3.size
  have hbl03 : Below w.heap.size w w3 := (hbl1.trans (Below.mono hN2.2 (by omega))).trans (Below.mono hbl3 (by omega))
  repeat' (first|refine X.O ?_|refine X.A ?_|refine X.B ?_|refine X.C ?_|refine X.D ?_|refine X.E ?_|refine X.F ?_|refine X.G ?_|refine X.H ?_|refine X.I ?_|fail)
  first|refine X.J (fun _ => ?_) (fun _ => ?_)|refine X.L (fun _ => ?_) (fun _ => ?_)|refine X.M (fun _ => ?_) (fun _ => ?_)|refine X.R (fun _ => ?_) (fun _ => ?_)|fail
  · rename_i hlt
    have hlT : i < (treesTo 6).length := by rw [treesTo_len]; omega
    have hlk : i + 1 < K.length := by omega
    have hkk := hkg i hlT hlk
    have hok := treesTo_ok (n := 6) (by omega) _ (List.getElem_mem hlT)
    repeat' (first|refine X.O ?_|refine X.A ?_|refine X.B ?_|refine X.C ?_|refine X.D ?_|refine X.E ?_|refine X.F ?_|refine X.G ?_|refine X.H ?_|refine X.I ?_|fail)
    refine WL.ixload (j := i) (hT.below IS.stable hbl03 hzT) (List.getElem?_eq_getElem hlT) ?_
    intro p1 u hu
    repeat' (first|refine X.O ?_|refine X.A ?_|refine X.B ?_|refine X.C ?_|refine X.D ?_|refine X.E ?_|refine X.F ?_|refine X.G ?_|refine X.H ?_|refine X.I ?_|fail)
    refine WL.call (density_any 8 (by omega) hu hok.1 (by omega)) ?_
    rintro _ w4 ⟨rfl, hbl4⟩
    have hz4 := hbl4.size
    refine WL.call (num_any _ _) ?_
    rintro _ _ ⟨rfl, rfl⟩
    have hnb := nm_bd (densL 8 (treesTo 6)[i])
    refine WL.call (inv_any _ hnb.1 hnb.2 _) ?_
    rintro _ w5 ⟨rfl, hs5⟩
    refine WL.ixstore (j := i + 1) (u := .int .i64 (powN (nm (densL 8 (treesTo 6)[i])) 10005)) ((hown3.below hbl4 (Nat.le_refl _)).still hs5) (by rw [List.length_append, Ints_length, List.length_take, List.length_replicate]; omega) ?_
    intro p2 w6 hown6 hbl6 hz6 hf6
    rw [← hkk, take_fill K (i + 1) hlk] at hown6
    repeat' (first|refine X.O ?_|refine X.A ?_|refine X.B ?_|refine X.C ?_|refine X.D ?_|refine X.E ?_|refine X.F ?_|refine X.G ?_|refine X.H ?_|refine X.I ?_|fail)
    exact ⟨i + 1, ⟨rfl, rfl, rfl, (by first|rfl|exact X.T (by omega)), trivial⟩, ⟨by omega, hown6, ((hbl3.trans (Below.mono hbl4 (by omega))).trans (hs5.below _)).trans hbl6⟩, by omega⟩
  · rename_i hge
    have hie : i = 37 := by omega
    subst hie
    rw [List.take_of_length_le (by omega), hkl, Nat.sub_self, List.replicate_zero, List.append_nil] at hown3
    repeat' (first|refine X.O ?_|refine X.A ?_|refine X.B ?_|refine X.C ?_|refine X.D ?_|refine X.E ?_|refine X.F ?_|refine X.G ?_|refine X.H ?_|refine X.I ?_|fail)
    refine ⟨_, ret1 rfl (by rfl), ?_⟩
    exact ⟨hown3.lower (by omega), hbl03⟩
theorem ExactMap_any (w : World) : Does Tryz.prog 28 [] w fun r w' => NewI w r w' exactL := by
  refine Does.enter Tryz.func28 Tryz.ntmps28 rfl (by rfl) ?_
  repeat' (first|refine X.O ?_|refine X.A ?_|refine X.B ?_|refine X.C ?_|refine X.D ?_|refine X.E ?_|refine X.F ?_|refine X.G ?_|refine X.H ?_|refine X.I ?_|fail)
  refine WL.call (newForms_any _) ?_
  rintro v1 w1 ⟨hF, hbl1⟩
  refine WL.call (exactMapL_any hF) ?_
  intro v2 w2 hN2
  repeat' (first|refine X.O ?_|refine X.A ?_|refine X.B ?_|refine X.C ?_|refine X.D ?_|refine X.E ?_|refine X.F ?_|refine X.G ?_|refine X.H ?_|refine X.I ?_|fail)
  refine ⟨_, ret1 rfl (by rfl), ?_⟩
  exact hN2.trans hbl1
theorem checkCharacter_any {lo hi : Nat} {w : World} {v : Value} {a : List Int} (h : IS lo hi w v a) : Does Tryz.prog 75 [v] w fun r w' => r = .int .i64 (chCode a) ∧ Still w w' := by
  refine Does.enter Tryz.func75 Tryz.ntmps75 rfl (by rfl) ?_
  repeat' (first|refine X.O ?_|refine X.A ?_|refine X.B ?_|refine X.C ?_|refine X.D ?_|refine X.E ?_|refine X.F ?_|refine X.G ?_|refine X.H ?_|refine X.I ?_|fail)
  refine WL.call (IsMap_any h) ?_
  rintro _ w1 ⟨rfl, hs1⟩
  rcases chCode_cases a with ⟨h0, hm, hg⟩ | ⟨h0, hm, hg⟩ | ⟨h0, hm⟩
  · have h38 : 0 < a.length := by rw [isMap_38 hm]; omega
    rw [getD_get h38] at hg
    rw [hm, h0]
    repeat' (first|refine X.O ?_|refine X.A ?_|refine X.B ?_|refine X.C ?_|refine X.D ?_|refine X.E ?_|refine X.F ?_|refine X.G ?_|refine X.H ?_|refine X.I ?_|fail)
    refine WL.ixload (j := 0) (h.still RI.stable hs1) (List.getElem?_eq_getElem h38) ?_
    rintro p _ rfl
    rw [hg]
    repeat' (first|refine X.O ?_|refine X.A ?_|refine X.B ?_|refine X.C ?_|refine X.D ?_|refine X.E ?_|refine X.F ?_|refine X.G ?_|refine X.H ?_|refine X.I ?_|fail)
    refine ⟨_, ret1 rfl (by rfl), ?_⟩
    exact ⟨rfl, hs1⟩
  · have h38 : 0 < a.length := by rw [isMap_38 hm]; omega
    rw [getD_get h38] at hg
    rw [hm, h0]
    repeat' (first|refine X.O ?_|refine X.A ?_|refine X.B ?_|refine X.C ?_|refine X.D ?_|refine X.E ?_|refine X.F ?_|refine X.G ?_|refine X.H ?_|refine X.I ?_|fail)
    refine WL.ixload (j := 0) (h.still RI.stable hs1) (List.getElem?_eq_getElem h38) ?_
    rintro p _ rfl
    repeat' (first|refine X.O ?_|refine X.A ?_|refine X.B ?_|refine X.C ?_|refine X.D ?_|refine X.E ?_|refine X.F ?_|refine X.G ?_|refine X.H ?_|refine X.I ?_|fail)
    first|refine X.J (fun _ => ?_) (fun _ => ?_)|refine X.L (fun _ => ?_) (fun _ => ?_)|refine X.M (fun _ => ?_) (fun _ => ?_)|refine X.R (fun _ => ?_) (fun _ => ?_)|fail
    · repeat' (first|refine X.O ?_|refine X.A ?_|refine X.B ?_|refine X.C ?_|refine X.D ?_|refine X.E ?_|refine X.F ?_|refine X.G ?_|refine X.H ?_|refine X.I ?_|fail)
      refine ⟨_, ret1 rfl (by rfl), ?_⟩
      exact ⟨rfl, hs1⟩
    · rename_i hbad
      exact absurd (by simpa using hbad) hg
  · rw [hm, h0]
    repeat' (first|refine X.O ?_|refine X.A ?_|refine X.B ?_|refine X.C ?_|refine X.D ?_|refine X.E ?_|refine X.F ?_|refine X.G ?_|refine X.H ?_|refine X.I ?_|fail)
    refine ⟨_, ret1 rfl (by rfl), ?_⟩
    exact ⟨rfl, hs1⟩
theorem OrderOfMap_any {lo hi : Nat} {w : World} {v : Value} {a : List Int} (h : IS lo hi w v a) :
    Does Tryz.prog 19 [v] w fun r w' => r = .tuple #[.int .i64 (orderOfMap a).1, .int .i64 (orderOfMap a).2] ∧ Chg 0 0 w w' := by
  have hz := h.hi_le
  refine Does.enter Tryz.func19 Tryz.ntmps19 rfl (by rfl) ?_
  repeat' (first|refine X.O ?_|refine X.A ?_|refine X.B ?_|refine X.C ?_|refine X.D ?_|refine X.E ?_|refine X.F ?_|refine X.G ?_|refine X.H ?_|refine X.I ?_|fail)
  refine WL.call (checkCharacter_any h) ?_
  rintro _ w1 ⟨rfl, hs1⟩
  have hz1 := hs1.size
  by_cases hc : chCode a = 0
  · have hm := (chCode_zero hc).1
    rw [hc]
    repeat' (first|refine X.O ?_|refine X.A ?_|refine X.B ?_|refine X.C ?_|refine X.D ?_|refine X.E ?_|refine X.F ?_|refine X.G ?_|refine X.H ?_|refine X.I ?_|fail)
    refine WL.call (newForms_any _) ?_
    rintro v2 w2 ⟨hF, hbl2⟩
    have hF2 := hF
    obtain ⟨vt, vc, rfl, hT, hC⟩ := hF2
    have hz2 := hbl2.size
    obtain ⟨at2, ct, hvt⟩ := hT.shape
    obtain ⟨ac2, cc, hvc⟩ := hC.shape
    subst hvt hvc
    refine WL.var (vs := [.slice at2 (treesTo 6).length ct, .slice ac2 cutLit.length cc]) (fun _ => by rfl) (by rfl) (fun y hy => by
      simp only [List.mem_cons, List.not_mem_nil, or_false] at hy
      rcases hy with rfl | rfl <;> rfl) ?_
    intro w3 hb3 hbl3 hz3
    have hbl03 : Below w.heap.size w w3 := ((hs1.below _).trans (Below.mono hbl2 (by omega))).trans (Below.mono hbl3 (by omega))
    repeat' (first|refine X.O ?_|refine X.A ?_|refine X.B ?_|refine X.C ?_|refine X.D ?_|refine X.E ?_|refine X.F ?_|refine X.G ?_|refine X.H ?_|refine X.I ?_|fail)
    refine WP.drawn (fun w' => Below w3.heap.size w3 w') [(0, true), (1, true), (2, true), (3, false), (4, false), (5, true), (6, true)] (by kernel_rfl) mixed ?_
    intro w4 hs4
    have hz4 := hs4.size
    have hS4 : Below w3.heap.size w3 w4 := hs4.below _
    refine WS.q rfl (q_loadS (by rfl) (fun w' h => hb3.below h (by omega)) (by rfl)) hS4 ?_
    refine WS.q rfl (q_s (by rfl)) hS4 ?_
    refine WS.q rfl (q_loadS (by rfl) (fun w' h => hb3.below h (by omega)) (by rfl)) hS4 ?_
    have hF4 : FormsI 0 w2.heap.size w4 (.agg #[.slice at2 (treesTo 6).length ct, .slice ac2 cutLit.length cc]) := (hF.below hbl3 (Nat.le_refl _)).below hS4 (by omega)
    refine WS.call rfl (exactMapL_any hF4) ?_
    intro v5 w5 hN5
    have hz5 := hN5.2.size
    have hS5 := hS4.trans (Below.mono hN5.2 (by omega))
    refine ⟨hS5, ?_⟩
    obtain ⟨vt', vc', he, hT', _⟩ := hF4.below hN5.2 (by omega)
    simp only [Value.agg.injEq, List.toArray_eq_iff] at he
    have hee : Value.slice at2 (treesTo 6).length ct = vt' := by
      have := congrArg (·[0]?) he
      simpa using this
    subst hee
    refine WS.call rfl (agreeTo_any hT' (h.below RI.stable (hbl03.trans (Below.mono hS5 (by omega))) hz) hN5.ow.rd (isMap_38 hm) exactL_len) ?_
    rintro _ w6 ⟨rfl, hbl6⟩
    have hS6 := hS5.trans (Below.mono hbl6 (by omega))
    refine ⟨hS6, ?_⟩
    repeat' (first|refine X.U rfl ?_|refine X.V rfl ?_|refine X.W rfl ?_|refine X.Y rfl ?_|refine X.Z rfl ?_|refine WS.nil ?_|fail)
    repeat' (first|refine X.O ?_|refine X.A ?_|refine X.B ?_|refine X.C ?_|refine X.D ?_|refine X.E ?_|refine X.F ?_|refine X.G ?_|refine X.H ?_|refine X.I ?_|fail)
    refine ⟨_, ret2 rfl (by rfl) (by rfl), ?_⟩
    have e : orderOfMap a = (agreeL a exactL, 0) := by unfold orderOfMap; rw [if_pos hc]
    exact ⟨by rw [e], Chg.of_below (hbl03.trans (Below.mono hS6 (by omega)))⟩
  · have e : orderOfMap a = (0, chCode a) := by unfold orderOfMap; rw [if_neg hc]
    repeat' (first|refine X.O ?_|refine X.A ?_|refine X.B ?_|refine X.C ?_|refine X.D ?_|refine X.E ?_|refine X.F ?_|refine X.G ?_|refine X.H ?_|refine X.I ?_|fail)
    first|refine X.J (fun _ => ?_) (fun _ => ?_)|refine X.L (fun _ => ?_) (fun _ => ?_)|refine X.M (fun _ => ?_) (fun _ => ?_)|refine X.R (fun _ => ?_) (fun _ => ?_)|fail
    · repeat' (first|refine X.O ?_|refine X.A ?_|refine X.B ?_|refine X.C ?_|refine X.D ?_|refine X.E ?_|refine X.F ?_|refine X.G ?_|refine X.H ?_|refine X.I ?_|fail)
      refine ⟨_, ret2 rfl (by rfl) (by rfl), ?_⟩
      exact ⟨by rw [e], Chg.of_still hs1⟩
    · rename_i hbad
      exact absurd (by simpa using hbad) hc
theorem l07Exact_any (w : World) : Does Tryz.prog 74 [] w fun r w' => NewI w r w' exactL := by
  have hkl := exactL_len
  have hkg := fun i h h2 => exactL_get (i := i) h h2
  have hk0 : exactL[0]'(by rw [exactL_len]; omega) = 1 := rfl
  obtain ⟨K, hK⟩ : ∃ K, exactL = K := ⟨_, rfl⟩
  simp only [hK] at hkl hkg hk0 ⊢
  refine Does.enter Tryz.func74 Tryz.ntmps74 rfl (by rfl) ?_
  repeat' (first|refine X.O ?_|refine X.A ?_|refine X.B ?_|refine X.C ?_|refine X.D ?_|refine X.E ?_|refine X.F ?_|refine X.G ?_|refine X.H ?_|refine X.I ?_|fail)
  refine WL.call (l03All_any 6 (by omega) _) ?_
  rintro v1 w1 ⟨⟨vs1, o1⟩, hbl1⟩
  have hz1 := hbl1.size
  have hT1 := o1.rd
  obtain ⟨a1, c1, hv1⟩ := hT1.shape
  rw [treesTo_len] at hv1
  subst hv1
  refine WL.step (o_lit (us := [.int .i64 1]) (by rfl) (by rfl) rfl (by decide) (one1 rfl) ?_)
  intro v2 w2 hown2 hbl2 hz2 _
  have hown20 : Own w1.heap.size 2 w2 v2 (Ints (K.take 1)) := by rw [Ints_snocG (show 0 < K.length by omega), hk0]; exact hown2
  repeat' (first|refine X.O ?_|refine X.A ?_|refine X.B ?_|refine X.C ?_|refine X.D ?_|refine X.E ?_|refine X.F ?_|refine X.G ?_|refine X.H ?_|refine X.I ?_|fail)
  refine WP.loop (fun (s : Nat × Value) => [(1, .slice a1 37 c1), (2, s.2), (3, .int .i64 (s.1 : Nat))])
    (fun s w3 => s.1 ≤ 37 ∧ Own w1.heap.size 2 w3 s.2 (Ints (K.take (s.1 + 1))) ∧ Below w1.heap.size w1 w3)
    (fun s => 37 - s.1) (0, v2) ⟨rfl, rfl, rfl, trivial⟩ ⟨by dsimp only; omega, hown20, hbl2⟩ ?_
  rintro ⟨i, vo⟩ w3 ⟨hi1, hown3, hbl3⟩
  dsimp only at hi1 hown3 ⊢
  have hz3 := hbl3.size
  repeat' (first|refine X.O ?_|refine X.A ?_|refine X.B ?_|refine X.C ?_|refine X.D ?_|refine X.E ?_|refine X.F ?_|refine X.G ?_|refine X.H ?_|refine X.I ?_|fail)
  first|refine X.J (fun _ => ?_) (fun _ => ?_)|refine X.L (fun _ => ?_) (fun _ => ?_)|refine X.M (fun _ => ?_) (fun _ => ?_)|refine X.R (fun _ => ?_) (fun _ => ?_)|fail
  · rename_i hlt
    have hlT : i < (treesTo 6).length := by rw [treesTo_len]; omega
    have hlk : i + 1 < K.length := by omega
    have hkk := hkg i hlT hlk
    have hok := treesTo_ok (n := 6) (by omega) _ (List.getElem_mem hlT)
    repeat' (first|refine X.O ?_|refine X.A ?_|refine X.B ?_|refine X.C ?_|refine X.D ?_|refine X.E ?_|refine X.F ?_|refine X.G ?_|refine X.H ?_|refine X.I ?_|fail)
    refine WL.ixload (j := i) (hT1.below IS.stable hbl3 (Nat.le_refl _)) (List.getElem?_eq_getElem hlT) ?_
    intro p1 u hu
    repeat' (first|refine X.O ?_|refine X.A ?_|refine X.B ?_|refine X.C ?_|refine X.D ?_|refine X.E ?_|refine X.F ?_|refine X.G ?_|refine X.H ?_|refine X.I ?_|fail)
    refine WL.call (l03Density_any 8 (by omega) hu hok.1 (by omega)) ?_
    rintro _ w4 ⟨rfl, hbl4⟩
    have hz4 := hbl4.size
    refine WL.call (l01Frac_any 1 _ _) ?_
    rintro _ _ ⟨rfl, rfl⟩
    rw [nm_frac, ← hkk]
    refine o_append1 (u := .int .i64 K[i + 1]) (fun _ => by rfl) (by rfl) (hown3.below hbl4 (Nat.le_refl _)) rfl (by rw [Ints_length, List.length_take]; unfold maxLen; omega) (by rw [Ints_length, List.length_take]; omega) (by omega) ?_
    intro p2 v6 w6 hown6 hbl6 _ hz6 _
    rw [← Ints_snocG hlk] at hown6
    repeat' (first|refine X.O ?_|refine X.A ?_|refine X.B ?_|refine X.C ?_|refine X.D ?_|refine X.E ?_|refine X.F ?_|refine X.G ?_|refine X.H ?_|refine X.I ?_|fail)
    exact ⟨(i + 1, v6), ⟨rfl, rfl, (by first|rfl|exact X.T (by omega)), trivial⟩, ⟨by dsimp only; omega, hown6, (hbl3.trans (Below.mono hbl4 (by omega))).trans hbl6⟩, by dsimp only; omega⟩
  · rename_i hge
    have hie : i = 37 := by omega
    subst hie
    rw [List.take_of_length_le (by omega)] at hown3
    repeat' (first|refine X.O ?_|refine X.A ?_|refine X.B ?_|refine X.C ?_|refine X.D ?_|refine X.E ?_|refine X.F ?_|refine X.G ?_|refine X.H ?_|refine X.I ?_|fail)
    refine ⟨_, ret1 rfl (by rfl), ?_⟩
    exact ⟨hown3.lower (by omega), hbl1.trans (Below.mono hbl3 (by omega))⟩
def chTwo (a b : List Int) : Int := if isMap a = true ∧ isMap b = true then (if a.getD 0 0 ≠ 1 then 5 else 0) else 1
theorem chTwo_self (a : List Int) : chTwo a a = chCode a := by unfold chTwo chCode; simp
theorem l07Code_any {lo hi lo' hi' : Nat} {w : World} {v v' : Value} {a b : List Int} (h : IS lo hi w v a) (h' : IS lo' hi' w v' b) : Does Tryz.prog 72 [v, v'] w fun r w' => r = .int .i64 (chTwo a b) ∧ Still w w' := by
  refine Does.enter Tryz.func72 Tryz.ntmps72 rfl (by rfl) ?_
  repeat' (first|refine X.O ?_|refine X.A ?_|refine X.B ?_|refine X.C ?_|refine X.D ?_|refine X.E ?_|refine X.F ?_|refine X.G ?_|refine X.H ?_|refine X.I ?_|fail)
  refine WL.call (l07Is_any h) ?_
  rintro _ w1 ⟨rfl, hs1⟩
  by_cases h1 : isMap a = true
  · rw [h1]
    repeat' (first|refine X.O ?_|refine X.A ?_|refine X.B ?_|refine X.C ?_|refine X.D ?_|refine X.E ?_|refine X.F ?_|refine X.G ?_|refine X.H ?_|refine X.I ?_|fail)
    refine WL.call (l07Is_any (h'.still RI.stable hs1)) ?_
    rintro _ w2 ⟨rfl, hs2⟩
    have hs12 := hs1.trans hs2
    by_cases h2 : isMap b = true
    · rw [h2]
      have h38 : 0 < a.length := by rw [isMap_38 h1]; omega
      repeat' (first|refine X.O ?_|refine X.A ?_|refine X.B ?_|refine X.C ?_|refine X.D ?_|refine X.E ?_|refine X.F ?_|refine X.G ?_|refine X.H ?_|refine X.I ?_|fail)
      refine WL.ixload (j := 0) (h.still RI.stable hs12) (List.getElem?_eq_getElem h38) ?_
      rintro p _ rfl
      repeat' (first|refine X.O ?_|refine X.A ?_|refine X.B ?_|refine X.C ?_|refine X.D ?_|refine X.E ?_|refine X.F ?_|refine X.G ?_|refine X.H ?_|refine X.I ?_|fail)
      first|refine X.J (fun _ => ?_) (fun _ => ?_)|refine X.L (fun _ => ?_) (fun _ => ?_)|refine X.M (fun _ => ?_) (fun _ => ?_)|refine X.R (fun _ => ?_) (fun _ => ?_)|fail
      · rename_i hne
        repeat' (first|refine X.O ?_|refine X.A ?_|refine X.B ?_|refine X.C ?_|refine X.D ?_|refine X.E ?_|refine X.F ?_|refine X.G ?_|refine X.H ?_|refine X.I ?_|fail)
        refine ⟨_, ret1 rfl (by rfl), ?_⟩
        exact ⟨by unfold chTwo; rw [if_pos ⟨h1, h2⟩, getD_get h38, if_pos hne], hs12⟩
      · rename_i hne
        repeat' (first|refine X.O ?_|refine X.A ?_|refine X.B ?_|refine X.C ?_|refine X.D ?_|refine X.E ?_|refine X.F ?_|refine X.G ?_|refine X.H ?_|refine X.I ?_|fail)
        refine ⟨_, ret1 rfl (by rfl), ?_⟩
        exact ⟨by unfold chTwo; rw [if_pos ⟨h1, h2⟩, getD_get h38, if_neg hne], hs12⟩
    · rw [Bool.not_eq_true] at h2
      rw [h2]
      repeat' (first|refine X.O ?_|refine X.A ?_|refine X.B ?_|refine X.C ?_|refine X.D ?_|refine X.E ?_|refine X.F ?_|refine X.G ?_|refine X.H ?_|refine X.I ?_|fail)
      refine ⟨_, ret1 rfl (by rfl), ?_⟩
      exact ⟨by unfold chTwo; rw [if_neg (fun h => by rw [h2] at h; cases h.2)], hs12⟩
  · rw [Bool.not_eq_true] at h1
    rw [h1]
    repeat' (first|refine X.O ?_|refine X.A ?_|refine X.B ?_|refine X.C ?_|refine X.D ?_|refine X.E ?_|refine X.F ?_|refine X.G ?_|refine X.H ?_|refine X.I ?_|fail)
    refine ⟨_, ret1 rfl (by rfl), ?_⟩
    exact ⟨by unfold chTwo; rw [if_neg (fun h => by rw [h1] at h; cases h.1)], hs1⟩
theorem sOrderOfMap_any {lo hi : Nat} {w : World} {v : Value} {a : List Int} (h : IS lo hi w v a) :
    Does Tryz.prog 17 [v] w fun r w' => r = .tuple #[.int .i64 (orderOfMap a).1, .int .i64 (orderOfMap a).2] ∧ Chg 0 0 w w' := by
  have hz := h.hi_le
  refine Does.enter Tryz.func17 Tryz.ntmps17 rfl (by rfl) ?_
  repeat' (first|refine X.O ?_|refine X.A ?_|refine X.B ?_|refine X.C ?_|refine X.D ?_|refine X.E ?_|refine X.F ?_|refine X.G ?_|refine X.H ?_|refine X.I ?_|fail)
  refine WL.call (l07Code_any h h) ?_
  rintro _ w1 ⟨rfl, hs1⟩
  rw [chTwo_self]
  have hz1 := hs1.size
  by_cases hc : chCode a = 0
  · have hm := (chCode_zero hc).1
    rw [hc]
    repeat' (first|refine X.O ?_|refine X.A ?_|refine X.B ?_|refine X.C ?_|refine X.D ?_|refine X.E ?_|refine X.F ?_|refine X.G ?_|refine X.H ?_|refine X.I ?_|fail)
    refine WL.call (l07Exact_any _) ?_
    intro v2 w2 hN2
    have hbl02 : Below w.heap.size w w2 := (hs1.below _).trans (Below.mono hN2.2 (by omega))
    have hz2 := hbl02.size
    refine WL.call (l07Agree_any (h.below RI.stable hbl02 hz) hN2.ow.rd (isMap_38 hm) exactL_len) ?_
    rintro _ w3 ⟨rfl, hbl3⟩
    repeat' (first|refine X.O ?_|refine X.A ?_|refine X.B ?_|refine X.C ?_|refine X.D ?_|refine X.E ?_|refine X.F ?_|refine X.G ?_|refine X.H ?_|refine X.I ?_|fail)
    refine ⟨_, ret2 rfl (by rfl) (by rfl), ?_⟩
    have e : orderOfMap a = (agreeL a exactL, 0) := by unfold orderOfMap; rw [if_pos hc]
    exact ⟨by rw [e], Chg.of_below (hbl02.trans (Below.mono hbl3 (by omega)))⟩
  · have e : orderOfMap a = (0, chCode a) := by unfold orderOfMap; rw [if_neg hc]
    repeat' (first|refine X.O ?_|refine X.A ?_|refine X.B ?_|refine X.C ?_|refine X.D ?_|refine X.E ?_|refine X.F ?_|refine X.G ?_|refine X.H ?_|refine X.I ?_|fail)
    first|refine X.J (fun _ => ?_) (fun _ => ?_)|refine X.L (fun _ => ?_) (fun _ => ?_)|refine X.M (fun _ => ?_) (fun _ => ?_)|refine X.R (fun _ => ?_) (fun _ => ?_)|fail
    · repeat' (first|refine X.O ?_|refine X.A ?_|refine X.B ?_|refine X.C ?_|refine X.D ?_|refine X.E ?_|refine X.F ?_|refine X.G ?_|refine X.H ?_|refine X.I ?_|fail)
      refine ⟨_, ret2 rfl (by rfl) (by rfl), ?_⟩
      exact ⟨by rw [e], Chg.of_still hs1⟩
    · rename_i hbad
      exact absurd (by simpa using hbad) hc
theorem FormsI.slices {lo hi : Nat} {w : World} {vt vc : Value} (h : FormsI lo hi w (.agg #[vt, vc])) : ∀ x ∈ [vt, vc], x.oneCell' = true := fun x hx => by
  obtain ⟨vt', vc', he, h1, h2⟩ := h
  obtain ⟨a1, c1, hv1⟩ := h1.shape
  obtain ⟨a2, c2, hv2⟩ := h2.shape
  simp only [Value.agg.injEq] at he
  have he2 : [vt, vc] = [vt', vc'] := congrArg Array.toList he
  rw [he2] at hx
  simp only [List.mem_cons, List.not_mem_nil, or_false] at hx
  rcases hx with rfl | rfl
  · rw [hv1]; rfl
  · rw [hv2]; rfl
end Go.Proofs
