/- The exact law of parsed tableaus, walked. -/
import Derived.Test.YthepgmajeljdhaaDoorHB
import Derived.Test.YthepgmajeljdhaaDoorA20
import Derived.Test.YthepgmajeljdhaaDoorZJ
set_option maxRecDepth 8000
namespace Go.Rk
open Go.Fw Go.Proofs
theorem tab_cells {x : TabD} (hx : Tab x) : tabCnt x ≤ 1000 := by
  have h8 := hx.le8
  have hsq := hx.sq
  have h1 : ∀ (xs : List (List Int)), (∀ r ∈ xs, r.length ≤ 8) → cntSS xs ≤ 8 * xs.length := fun xs h => by
    induction xs with
    | nil => simp [cntSS]
    | cons r xs ih =>
      rw [cntSS_cons, List.length_cons]
      have := h r (by simp)
      have := ih fun r' h' => h r' (by simp [h'])
      omega
  have := h1 x.1 fun r hr => by have := (hx.row r hr).1; omega
  unfold tabCnt
  omega
theorem parseTab_len (s : List UInt8) : tabCnt (parseTab s).1 ≤ 1000000 := by
  by_cases h : (parseTab s).2 = 0
  · have := tab_cells (isTab_iff (parseTab_tab h))
    omega
  · have e : parseTab s = (([], []), 6) := by
      unfold parseTab at h ⊢
      split at h
      · rename_i h2
        rw [if_pos h2]
        unfold tabIf at h ⊢
        split at h
        · exact absurd rfl h
        · rename_i h3; rw [if_neg h3]
      · rename_i h2; rw [if_neg h2]
    rw [e]; decide
end Go.Rk
namespace Go.Proofs
open Go Go.Fw Go.RowKit Go.Rk
theorem FnExactParseTableau_any {w : World} (a0 : List UInt8) (hSW : SW w) : Does Tryd.prog 4 [St a0] w fun r w' => r = .bool true ∧ Below w.heap.size w w' := by
  refine Does.enter Tryd.func4 Tryd.ntmps4 rfl (by rfl) ?_
  have hB0 : Below w.heap.size w w := Below.refl _ _
  repeat' (first|refine X.O ?_|refine X.A ?_|refine X.B ?_|refine X.C ?_|refine X.D ?_|refine X.E ?_|refine X.F ?_|refine X.G ?_|refine X.H ?_|refine X.I ?_|fail)
  refine WL.step (o_lenT (by rfl) ?_)
  repeat' (first|refine X.O ?_|refine X.A ?_|refine X.B ?_|refine X.C ?_|refine X.D ?_|refine X.E ?_|refine X.F ?_|refine X.G ?_|refine X.H ?_|refine X.I ?_|fail)
  first|refine X.J (fun _ => ?_) (fun _ => ?_)|refine X.L (fun _ => ?_) (fun _ => ?_)|refine X.M (fun _ => ?_) (fun _ => ?_)|refine X.R (fun _ => ?_) (fun _ => ?_)|fail
  · rename_i hbig
    repeat' (first|refine X.O ?_|refine X.A ?_|refine X.B ?_|refine X.C ?_|refine X.D ?_|refine X.E ?_|refine X.F ?_|refine X.G ?_|refine X.H ?_|refine X.I ?_|fail)
    refine ⟨_, ret1 rfl (by rfl), ?_⟩
    exact ⟨rfl, hB0⟩
  rename_i hsm0
  have hn0 : a0.length ≤ 1048576 := by omega
  repeat' (first|refine X.O ?_|refine X.A ?_|refine X.B ?_|refine X.C ?_|refine X.D ?_|refine X.E ?_|refine X.F ?_|refine X.G ?_|refine X.H ?_|refine X.I ?_|fail)
  have hlen := parseTab_len a0
  refine WL.call (sParseTableau_any a0 (by omega) _) ?_
  rintro _ w1 ⟨vW, rfl, W, hc1⟩
  have hz1 := hc1.size
  have hB1 : Below w.heap.size w w1 := hB0.trans (hc1.below (by omega) (by omega))
  obtain ⟨b1W, m1W, c1W, b2W, m2W, c2W, hlitW⟩ := W.cells
  subst hlitW
  repeat' (first|refine X.O ?_|refine X.A ?_|refine X.B ?_|refine X.C ?_|refine X.D ?_|refine X.E ?_|refine X.F ?_|refine X.G ?_|refine X.H ?_|refine X.I ?_|fail)
  refine WL.var (vs := [.slice b1W m1W c1W, .slice b2W m2W c2W]) (fun p => by rfl) rfl two_cells ?_
  intro w2 BW hbl2 hzz2
  have hc2 := Chg.of_below hbl2
  have hz2 := hc2.size
  have hB2 : Below w.heap.size w w2 := hB1.trans (hc2.below (by omega) (by omega))
  replace W := W.chg hc2 (by omega)
  repeat' (first|refine X.O ?_|refine X.A ?_|refine X.B ?_|refine X.C ?_|refine X.D ?_|refine X.E ?_|refine X.F ?_|refine X.G ?_|refine X.H ?_|refine X.I ?_|fail)
  refine WL.call (ParseTableau_any a0 (by omega) (hSW.below hB2)) ?_
  rintro _ w3 ⟨vG, rfl, G, hc3⟩
  have hz3 := hc3.size
  have hB3 : Below w.heap.size w w3 := hB2.trans (hc3.below (by omega) (by omega))
  replace W := W.chg hc3 (by omega)
  replace BW := BW.chg hc3 (by omega)
  obtain ⟨b1G, m1G, c1G, b2G, m2G, c2G, hlitG⟩ := G.cells
  subst hlitG
  repeat' (first|refine X.O ?_|refine X.A ?_|refine X.B ?_|refine X.C ?_|refine X.D ?_|refine X.E ?_|refine X.F ?_|refine X.G ?_|refine X.H ?_|refine X.I ?_|fail)
  refine WL.var (vs := [.slice b1G m1G c1G, .slice b2G m2G c2G]) (fun p => by rfl) rfl two_cells ?_
  intro w4 BG hbl4 hzz4
  have hc4 := Chg.of_below hbl4
  have hz4 := hc4.size
  have hB4 : Below w.heap.size w w4 := hB3.trans (hc4.below (by omega) (by omega))
  replace W := W.chg hc4 (by omega)
  replace BW := BW.chg hc4 (by omega)
  replace G := G.chg hc4 (by omega)
  repeat' (first|refine X.O ?_|refine X.A ?_|refine X.B ?_|refine X.C ?_|refine X.D ?_|refine X.E ?_|refine X.F ?_|refine X.G ?_|refine X.H ?_|refine X.I ?_|fail)
  refine WL.step (o_loadS (by rfl) BG (by rfl) ?_)
  repeat' (first|refine X.O ?_|refine X.A ?_|refine X.B ?_|refine X.C ?_|refine X.D ?_|refine X.E ?_|refine X.F ?_|refine X.G ?_|refine X.H ?_|refine X.I ?_|fail)
  refine WL.step (o_loadS (by rfl) BW (by rfl) ?_)
  repeat' (first|refine X.O ?_|refine X.A ?_|refine X.B ?_|refine X.C ?_|refine X.D ?_|refine X.E ?_|refine X.F ?_|refine X.G ?_|refine X.H ?_|refine X.I ?_|fail)
  refine WL.call (eqT_same G.rd W.rd) ?_
  rintro _ w5 ⟨rfl, hc5⟩
  have hz5 := hc5.size
  have hB5 : Below w.heap.size w w5 := hB4.trans (hc5.below (by omega) (by omega))
  replace W := W.chg hc5 (by omega)
  replace BW := BW.chg hc5 (by omega)
  replace G := G.chg hc5 (by omega)
  replace BG := BG.chg hc5 (by omega)
  repeat' (first|refine X.O ?_|refine X.A ?_|refine X.B ?_|refine X.C ?_|refine X.D ?_|refine X.E ?_|refine X.F ?_|refine X.G ?_|refine X.H ?_|refine X.I ?_|fail)
  try (refine WP.condD (by rfl) (fun hbad => False.elim (by first | exact hbad rfl | omega)) (fun _ => ?_))
  repeat' (first|refine X.O ?_|refine X.A ?_|refine X.B ?_|refine X.C ?_|refine X.D ?_|refine X.E ?_|refine X.F ?_|refine X.G ?_|refine X.H ?_|refine X.I ?_|fail)
  refine WL.step (o_loadS (by rfl) BG (by rfl) ?_)
  repeat' (first|refine X.O ?_|refine X.A ?_|refine X.B ?_|refine X.C ?_|refine X.D ?_|refine X.E ?_|refine X.F ?_|refine X.G ?_|refine X.H ?_|refine X.I ?_|fail)
  refine WL.call (markT_any (k := 1) G (by omega) (by omega)) ?_
  rintro _ w6 ⟨rfl, G', hc6⟩
  have hz6 := hc6.size
  have hB6 : Below w.heap.size w w6 := hB5.trans (hc6.below (by omega) (by omega))
  replace W := W.chg hc6 (by omega)
  replace BW := BW.chg hc6 (by omega)
  replace BG := BG.chg hc6 (by omega)
  clear G
  repeat' (first|refine X.O ?_|refine X.A ?_|refine X.B ?_|refine X.C ?_|refine X.D ?_|refine X.E ?_|refine X.F ?_|refine X.G ?_|refine X.H ?_|refine X.I ?_|fail)
  refine WL.step (o_loadS (by rfl) BG (by rfl) ?_)
  repeat' (first|refine X.O ?_|refine X.A ?_|refine X.B ?_|refine X.C ?_|refine X.D ?_|refine X.E ?_|refine X.F ?_|refine X.G ?_|refine X.H ?_|refine X.I ?_|fail)
  refine WL.call (heldT (k := 1) G'.rd (by omega) (by omega)) ?_
  rintro _ w7 ⟨rfl, hc7⟩
  have hz7 := hc7.size
  have hB7 : Below w.heap.size w w7 := hB6.trans (hc7.below (by omega) (by omega))
  replace W := W.chg hc7 (by omega)
  replace BW := BW.chg hc7 (by omega)
  replace BG := BG.chg hc7 (by omega)
  replace G' := G'.chg hc7 (by omega)
  repeat' (first|refine X.O ?_|refine X.A ?_|refine X.B ?_|refine X.C ?_|refine X.D ?_|refine X.E ?_|refine X.F ?_|refine X.G ?_|refine X.H ?_|refine X.I ?_|fail)
  try (refine WP.condD (by rfl) (fun hbad => False.elim (by first | exact hbad rfl | omega)) (fun _ => ?_))
  repeat' (first|refine X.O ?_|refine X.A ?_|refine X.B ?_|refine X.C ?_|refine X.D ?_|refine X.E ?_|refine X.F ?_|refine X.G ?_|refine X.H ?_|refine X.I ?_|fail)
  try (refine WP.condD (by rfl) (fun hbad => False.elim (by first | exact hbad rfl | omega)) (fun _ => ?_))
  repeat' (first|refine X.O ?_|refine X.A ?_|refine X.B ?_|refine X.C ?_|refine X.D ?_|refine X.E ?_|refine X.F ?_|refine X.G ?_|refine X.H ?_|refine X.I ?_|fail)
  refine WL.call (ParseTableau_any a0 (by omega) (hSW.below hB7)) ?_
  rintro _ w8 ⟨vH, rfl, H, hc8⟩
  have hz8 := hc8.size
  have hB8 : Below w.heap.size w w8 := hB7.trans (hc8.below (by omega) (by omega))
  replace W := W.chg hc8 (by omega)
  replace BW := BW.chg hc8 (by omega)
  replace BG := BG.chg hc8 (by omega)
  replace G' := G'.chg hc8 (by omega)
  obtain ⟨b1H, m1H, c1H, b2H, m2H, c2H, hlitH⟩ := H.cells
  subst hlitH
  repeat' (first|refine X.O ?_|refine X.A ?_|refine X.B ?_|refine X.C ?_|refine X.D ?_|refine X.E ?_|refine X.F ?_|refine X.G ?_|refine X.H ?_|refine X.I ?_|fail)
  refine WL.var (vs := [.slice b1H m1H c1H, .slice b2H m2H c2H]) (fun p => by rfl) rfl two_cells ?_
  intro w9 BH hbl9 hzz9
  have hc9 := Chg.of_below hbl9
  have hz9 := hc9.size
  have hB9 : Below w.heap.size w w9 := hB8.trans (hc9.below (by omega) (by omega))
  replace W := W.chg hc9 (by omega)
  replace BW := BW.chg hc9 (by omega)
  replace BG := BG.chg hc9 (by omega)
  replace G' := G'.chg hc9 (by omega)
  replace H := H.chg hc9 (by omega)
  repeat' (first|refine X.O ?_|refine X.A ?_|refine X.B ?_|refine X.C ?_|refine X.D ?_|refine X.E ?_|refine X.F ?_|refine X.G ?_|refine X.H ?_|refine X.I ?_|fail)
  refine WL.step (o_loadS (by rfl) BH (by rfl) ?_)
  repeat' (first|refine X.O ?_|refine X.A ?_|refine X.B ?_|refine X.C ?_|refine X.D ?_|refine X.E ?_|refine X.F ?_|refine X.G ?_|refine X.H ?_|refine X.I ?_|fail)
  refine WL.step (o_loadS (by rfl) BW (by rfl) ?_)
  repeat' (first|refine X.O ?_|refine X.A ?_|refine X.B ?_|refine X.C ?_|refine X.D ?_|refine X.E ?_|refine X.F ?_|refine X.G ?_|refine X.H ?_|refine X.I ?_|fail)
  refine WL.call (eqT_same H.rd W.rd) ?_
  rintro _ w10 ⟨rfl, hc10⟩
  have hz10 := hc10.size
  have hB10 : Below w.heap.size w w10 := hB9.trans (hc10.below (by omega) (by omega))
  replace W := W.chg hc10 (by omega)
  replace BW := BW.chg hc10 (by omega)
  replace BG := BG.chg hc10 (by omega)
  replace G' := G'.chg hc10 (by omega)
  replace H := H.chg hc10 (by omega)
  replace BH := BH.chg hc10 (by omega)
  repeat' (first|refine X.O ?_|refine X.A ?_|refine X.B ?_|refine X.C ?_|refine X.D ?_|refine X.E ?_|refine X.F ?_|refine X.G ?_|refine X.H ?_|refine X.I ?_|fail)
  try (refine WP.condD (by rfl) (fun hbad => False.elim (by first | exact hbad rfl | omega)) (fun _ => ?_))
  repeat' (first|refine X.O ?_|refine X.A ?_|refine X.B ?_|refine X.C ?_|refine X.D ?_|refine X.E ?_|refine X.F ?_|refine X.G ?_|refine X.H ?_|refine X.I ?_|fail)
  refine WL.step (o_loadS (by rfl) BG (by rfl) ?_)
  repeat' (first|refine X.O ?_|refine X.A ?_|refine X.B ?_|refine X.C ?_|refine X.D ?_|refine X.E ?_|refine X.F ?_|refine X.G ?_|refine X.H ?_|refine X.I ?_|fail)
  refine WL.call (heldT (k := 1) G'.rd (by omega) (by omega)) ?_
  rintro _ w11 ⟨rfl, hc11⟩
  have hz11 := hc11.size
  have hB11 : Below w.heap.size w w11 := hB10.trans (hc11.below (by omega) (by omega))
  replace BG := BG.chg hc11 (by omega)
  replace G' := G'.chg hc11 (by omega)
  repeat' (first|refine X.O ?_|refine X.A ?_|refine X.B ?_|refine X.C ?_|refine X.D ?_|refine X.E ?_|refine X.F ?_|refine X.G ?_|refine X.H ?_|refine X.I ?_|fail)
  try (refine WP.condD (by rfl) (fun hbad => False.elim (by first | exact hbad rfl | omega)) (fun _ => ?_))
  repeat' (first|refine X.O ?_|refine X.A ?_|refine X.B ?_|refine X.C ?_|refine X.D ?_|refine X.E ?_|refine X.F ?_|refine X.G ?_|refine X.H ?_|refine X.I ?_|fail)
  try (refine WP.condD (by rfl) (fun hbad => False.elim (by first | exact hbad rfl | omega)) (fun _ => ?_))
  repeat' (first|refine X.O ?_|refine X.A ?_|refine X.B ?_|refine X.C ?_|refine X.D ?_|refine X.E ?_|refine X.F ?_|refine X.G ?_|refine X.H ?_|refine X.I ?_|fail)
  refine ⟨_, ret1 rfl (by rfl), ?_⟩
  exact ⟨rfl, hB11⟩
end Go.Proofs
