/- Up to which number of nodes maps agree: the program's way, its trees given, and the reference's. -/
import Derived.Test.YtncilhecdihmeaaA34
import Derived.Test.YtncilhecdihmeaaA1
set_option maxRecDepth 8000
namespace Go.Rk
open Go.Fw Go.Proofs
/-- The numbers of nodes at the places of maps. -/
def placesN : List Int := 0 :: (treesTo 6).map fun t => (t.length : Int)
def agGo : List Int → List Int → List Int → Int
  | n :: ns, x :: xs, y :: ys => if x ≠ y then n - 1 else agGo ns xs ys
  | _, _, _ => 6
def agreeL (a b : List Int) : Int := agGo placesN a b
theorem placesN_len : placesN.length = 38 := by unfold placesN; rw [List.length_cons, List.length_map, treesTo_len]
theorem placesN_get {i : Nat} (h : i < placesN.length) (h0 : 1 ≤ i) (h1 : i - 1 < (treesTo 6).length) : placesN[i] = ((treesTo 6)[i - 1].length : Int) := by
  obtain ⟨j, rfl⟩ : ∃ j, i = j + 1 := ⟨i - 1, by omega⟩
  simp [placesN]
theorem agGo_drop {ns a b : List Int} {i : Nat} (hn : i < ns.length) (ha : i < a.length) (hb : i < b.length) : agGo (ns.drop i) (a.drop i) (b.drop i) = if a[i] ≠ b[i] then ns[i] - 1 else agGo (ns.drop (i + 1)) (a.drop (i + 1)) (b.drop (i + 1)) := by
  rw [List.drop_eq_getElem_cons hn, List.drop_eq_getElem_cons ha, List.drop_eq_getElem_cons hb, agGo]
theorem agGo_end {ns a b : List Int} {i : Nat} (h : ns.length ≤ i) : agGo (ns.drop i) (a.drop i) (b.drop i) = 6 := by
  rw [List.drop_eq_nil_of_le h]; cases a.drop i <;> cases b.drop i <;> rfl
theorem places_le {i : Nat} (h : i < placesN.length) : 0 ≤ placesN[i] ∧ placesN[i] ≤ 6 := by
  rcases Nat.eq_zero_or_pos i with rfl | h0
  · simp [placesN]
  · rw [placesN_len] at h
    have h1 : i - 1 < (treesTo 6).length := by rw [treesTo_len]; omega
    rw [placesN_get (by rw [placesN_len]; exact h) h0 h1]
    have := (treesTo_ok (n := 6) (by omega) _ (List.getElem_mem h1)).2
    omega
end Go.Rk
namespace Go.Proofs
open Go Go.Fw Go.RowKit Go.Rk
theorem nodes_any {lo hi : Nat} {w : World} {vt vc : Value} (h : ISS lo hi w vt (treesTo 6)) {p : Nat} (hp : p < placesN.length) :
    Does Try.prog 52 [.agg #[vt, vc], .int .i64 (p : Nat)] w fun r w' => r = .int .i64 placesN[p] ∧ Below w.heap.size w w' := by
  have hz := h.hi_le
  have hp38 : p < 38 := by rw [placesN_len] at hp; exact hp
  refine Does.enter Try.func52 Try.ntmps52 rfl (by rfl) ?_
  repeat' (first|refine X.O ?_|refine X.A ?_|refine X.B ?_|refine X.C ?_|refine X.D ?_|refine X.E ?_|refine X.F ?_|refine X.G ?_|refine X.H ?_|refine X.I ?_|fail)
  refine WL.step (o_box (by rfl) ?_)
  intro w1 hb1 hbl1 hz1
  repeat' (first|refine X.O ?_|refine X.A ?_|refine X.B ?_|refine X.C ?_|refine X.D ?_|refine X.E ?_|refine X.F ?_|refine X.G ?_|refine X.H ?_|refine X.I ?_|fail)
  first|refine X.J (fun _ => ?_) (fun _ => ?_)|refine X.L (fun _ => ?_) (fun _ => ?_)|refine X.M (fun _ => ?_) (fun _ => ?_)|refine X.R (fun _ => ?_) (fun _ => ?_)|fail
  · rename_i h0
    have : p = 0 := by omega
    subst this
    repeat' (first|refine X.O ?_|refine X.A ?_|refine X.B ?_|refine X.C ?_|refine X.D ?_|refine X.E ?_|refine X.F ?_|refine X.G ?_|refine X.H ?_|refine X.I ?_|fail)
    refine ⟨_, ret1 rfl (by rfl), ?_⟩
    exact ⟨rfl, hbl1⟩
  · rename_i h0
    have h1 : p - 1 < (treesTo 6).length := by rw [treesTo_len]; rw [placesN_len] at hp; omega
    rw [placesN_get hp (by omega) h1]
    have hb1' : Blk w1 w.heap.size [vt, vc] _ := hb1
    repeat' (first|refine X.O ?_|refine X.A ?_|refine X.B ?_|refine X.C ?_|refine X.D ?_|refine X.E ?_|refine X.F ?_|refine X.G ?_|refine X.H ?_|refine X.I ?_|fail)
    refine WL.fld hb1' ?_
    intro p1
    have hR := h.below IS.stable hbl1 hz
    obtain ⟨at', ct, hvt⟩ := hR.shape
    subst hvt
    repeat' (first|refine X.O ?_|refine X.A ?_|refine X.B ?_|refine X.C ?_|refine X.D ?_|refine X.E ?_|refine X.F ?_|refine X.G ?_|refine X.H ?_|refine X.I ?_|fail)
    refine WL.ixload (j := p - 1) hR (List.getElem?_eq_getElem h1) ?_
    intro p2 u hu
    repeat' (first|refine X.O ?_|refine X.A ?_|refine X.B ?_|refine X.C ?_|refine X.D ?_|refine X.E ?_|refine X.F ?_|refine X.G ?_|refine X.H ?_|refine X.I ?_|fail)
    refine WL.call (length_any hu) ?_
    rintro _ w2 ⟨rfl, hs2⟩
    repeat' (first|refine X.O ?_|refine X.A ?_|refine X.B ?_|refine X.C ?_|refine X.D ?_|refine X.E ?_|refine X.F ?_|refine X.G ?_|refine X.H ?_|refine X.I ?_|fail)
    refine ⟨_, ret1 rfl (by rfl), ?_⟩
    exact ⟨rfl, hbl1.trans (hs2.below _)⟩
theorem agreeTo_any {lo hi la ha lb hb : Nat} {w : World} {vt vc va vb : Value} {a b : List Int} (h : ISS lo hi w vt (treesTo 6)) (hA : IS la ha w va a) (hB : IS lb hb w vb b) (hal : a.length = 38) (hbl : b.length = 38) :
    Does Try.prog 30 [.agg #[vt, vc], va, vb] w fun r w' => r = .int .i64 (agreeL a b) ∧ Below w.heap.size w w' := by
  have hz := h.hi_le
  have hza := hA.hi_le
  have hzb := hB.hi_le
  have hpl := placesN_len
  obtain ⟨aa, ca, hva⟩ := hA.shape
  rw [hal] at hva
  subst hva
  obtain ⟨ab, cb, hvb⟩ := hB.shape
  rw [hbl] at hvb
  subst hvb
  refine Does.enter Try.func30 Try.ntmps30 rfl (by rfl) ?_
  repeat' (first|refine X.O ?_|refine X.A ?_|refine X.B ?_|refine X.C ?_|refine X.D ?_|refine X.E ?_|refine X.F ?_|refine X.G ?_|refine X.H ?_|refine X.I ?_|fail)
  refine WL.step (o_box (by rfl) ?_)
  intro w1 hb1 hbl1 hz1
  have hb1' : Blk w1 w.heap.size [vt, vc] _ := hb1
  repeat' (first|refine X.O ?_|refine X.A ?_|refine X.B ?_|refine X.C ?_|refine X.D ?_|refine X.E ?_|refine X.F ?_|refine X.G ?_|refine X.H ?_|refine X.I ?_|fail)
  refine WP.loop (fun (i : Nat) => [(1, .slice aa 38 ca), (2, .slice ab 38 cb), (3, .pointer (some ⟨w.heap.size, 0, none⟩)), (9, .int .i64 38), (10, .int .i64 (i : Nat))])
    (fun i w2 => i ≤ 38 ∧ agreeL a b = agGo (placesN.drop i) (a.drop i) (b.drop i) ∧ Still w1 w2)
    (fun i => 38 - i) 0 ⟨rfl, rfl, rfl, rfl, rfl, trivial⟩ ⟨by omega, rfl, Still.refl _⟩ ?_
  rintro i w2 ⟨hi1, he, hs2⟩
  have hbl2 : Below w.heap.size w w2 := hbl1.trans (hs2.below _)
  repeat' (first|refine X.O ?_|refine X.A ?_|refine X.B ?_|refine X.C ?_|refine X.D ?_|refine X.E ?_|refine X.F ?_|refine X.G ?_|refine X.H ?_|refine X.I ?_|fail)
  first|refine X.J (fun _ => ?_) (fun _ => ?_)|refine X.L (fun _ => ?_) (fun _ => ?_)|refine X.M (fun _ => ?_) (fun _ => ?_)|refine X.R (fun _ => ?_) (fun _ => ?_)|fail
  · rename_i hlt
    have hli : i < a.length := by omega
    have hlj : i < b.length := by omega
    have hlp : i < placesN.length := by omega
    rw [agGo_drop hlp hli hlj] at he
    have hpb := places_le hlp
    repeat' (first|refine X.O ?_|refine X.A ?_|refine X.B ?_|refine X.C ?_|refine X.D ?_|refine X.E ?_|refine X.F ?_|refine X.G ?_|refine X.H ?_|refine X.I ?_|fail)
    refine WP.drawn (fun w' => w'.heap = w2.heap) [(0, true), (1, true), (2, true), (3, true), (4, true), (5, true), (6, true), (7, true), (8, true)] (by kernel_rfl) mixed ?_
    intro w3 hs3
    have hw3 : w3.heap = w2.heap := hs3.heap
    have hbl3 : Below w.heap.size w w3 := hbl2.trans (hs3.below _)
    repeat' (first|refine X.U rfl ?_|refine X.V rfl ?_|refine X.W rfl ?_|refine X.Y rfl ?_|refine X.Z rfl ?_|refine WS.nil ?_|fail)
    refine WS.ixload (j := i) rfl rfl (hA.below RI.stable hbl3 hza) (List.getElem?_eq_getElem hli) (fun w' hw' => same_heap (hw'.trans hw3.symm)) hw3 ?_
    rintro p1 _ rfl
    repeat' (first|refine X.U rfl ?_|refine X.V rfl ?_|refine X.W rfl ?_|refine X.Y rfl ?_|refine X.Z rfl ?_|refine WS.nil ?_|fail)
    refine WS.ixload (j := i) rfl rfl (hB.below RI.stable hbl3 hzb) (List.getElem?_eq_getElem hlj) (fun w' hw' => same_heap (hw'.trans hw3.symm)) hw3 ?_
    rintro p2 _ rfl
    repeat' (first|refine X.U rfl ?_|refine X.V rfl ?_|refine X.W rfl ?_|refine X.Y rfl ?_|refine X.Z rfl ?_|refine WS.nil ?_|fail)
    repeat' (first|refine X.O ?_|refine X.A ?_|refine X.B ?_|refine X.C ?_|refine X.D ?_|refine X.E ?_|refine X.F ?_|refine X.G ?_|refine X.H ?_|refine X.I ?_|fail)
    first|refine X.J (fun _ => ?_) (fun _ => ?_)|refine X.L (fun _ => ?_) (fun _ => ?_)|refine X.M (fun _ => ?_) (fun _ => ?_)|refine X.R (fun _ => ?_) (fun _ => ?_)|fail
    · rename_i hne
      rw [if_pos hne] at he
      repeat' (first|refine X.O ?_|refine X.A ?_|refine X.B ?_|refine X.C ?_|refine X.D ?_|refine X.E ?_|refine X.F ?_|refine X.G ?_|refine X.H ?_|refine X.I ?_|fail)
      refine WL.step (o_loadS (by rfl) ((hb1'.still hs2).still hs3) (by rfl) ?_)
      repeat' (first|refine X.O ?_|refine X.A ?_|refine X.B ?_|refine X.C ?_|refine X.D ?_|refine X.E ?_|refine X.F ?_|refine X.G ?_|refine X.H ?_|refine X.I ?_|fail)
      refine WL.call (nodes_any (h.below IS.stable hbl3 hz) hlp) ?_
      rintro _ w4 ⟨rfl, hbl4⟩
      have hz3 := hbl3.size
      repeat' (first|refine X.O ?_|refine X.A ?_|refine X.B ?_|refine X.C ?_|refine X.D ?_|refine X.E ?_|refine X.F ?_|refine X.G ?_|refine X.H ?_|refine X.I ?_|fail)
      refine ⟨_, ret1 rfl (by rfl), ?_⟩
      exact ⟨by rw [he], hbl3.trans (Below.mono hbl4 (by omega))⟩
    · rename_i hne
      rw [if_neg hne] at he
      repeat' (first|refine X.O ?_|refine X.A ?_|refine X.B ?_|refine X.C ?_|refine X.D ?_|refine X.E ?_|refine X.F ?_|refine X.G ?_|refine X.H ?_|refine X.I ?_|fail)
      exact ⟨i + 1, ⟨rfl, rfl, rfl, rfl, (by first|rfl|exact X.T (by omega)), trivial⟩, ⟨by omega, he, hs2.trans hs3⟩, by omega⟩
  · rename_i hge
    rw [agGo_end (by omega)] at he
    repeat' (first|refine X.O ?_|refine X.A ?_|refine X.B ?_|refine X.C ?_|refine X.D ?_|refine X.E ?_|refine X.F ?_|refine X.G ?_|refine X.H ?_|refine X.I ?_|fail)
    refine ⟨_, ret1 rfl (by rfl), ?_⟩
    exact ⟨by rw [he], hbl2⟩
end Go.Proofs
/- Up to which number of nodes maps agree: the reference's way, and the function itself. -/
set_option maxRecDepth 8000
namespace Go.Proofs
open Go Go.Fw Go.RowKit Go.Rk
theorem l07Agree_any {la ha lb hb : Nat} {w : World} {va vb : Value} {a b : List Int} (hA : IS la ha w va a) (hB : IS lb hb w vb b) (hal : a.length = 38) (hbl : b.length = 38) :
    Does Try.prog 28 [va, vb] w fun r w' => r = .int .i64 (agreeL a b) ∧ Below w.heap.size w w' := by
  have hza := hA.hi_le
  have hzb := hB.hi_le
  have hpl := placesN_len
  obtain ⟨aa, ca, hva⟩ := hA.shape
  rw [hal] at hva
  subst hva
  obtain ⟨ab, cb, hvb⟩ := hB.shape
  rw [hbl] at hvb
  subst hvb
  have h0 : agreeL a b = if a[0]'(by omega) ≠ b[0]'(by omega) then placesN[0]'(by omega) - 1 else agGo (placesN.drop 1) (a.drop 1) (b.drop 1) := by
    have := agGo_drop (ns := placesN) (a := a) (b := b) (i := 0) (by omega) (by omega) (by omega)
    unfold agreeL
    rw [List.drop_zero, List.drop_zero, List.drop_zero] at this
    exact this
  refine Does.enter Try.func28 Try.ntmps28 rfl (by rfl) ?_
  repeat' (first|refine X.O ?_|refine X.A ?_|refine X.B ?_|refine X.C ?_|refine X.D ?_|refine X.E ?_|refine X.F ?_|refine X.G ?_|refine X.H ?_|refine X.I ?_|fail)
  refine WP.drawn (fun w' => w'.heap = w.heap) [(0, true), (1, true), (2, true), (3, true), (4, true), (5, true), (6, true)] (by kernel_rfl) mixed ?_
  intro w1 hs1
  have hw1 : w1.heap = w.heap := hs1.heap
  repeat' (first|refine X.U rfl ?_|refine X.V rfl ?_|refine X.W rfl ?_|refine X.Y rfl ?_|refine X.Z rfl ?_|refine WS.nil ?_|fail)
  refine WS.ixload (j := 0) rfl rfl (hA.still RI.stable hs1) (List.getElem?_eq_getElem (by omega)) (fun w' hw' => same_heap (hw'.trans hw1.symm)) hw1 ?_
  rintro p1 _ rfl
  repeat' (first|refine X.U rfl ?_|refine X.V rfl ?_|refine X.W rfl ?_|refine X.Y rfl ?_|refine X.Z rfl ?_|refine WS.nil ?_|fail)
  refine WS.ixload (j := 0) rfl rfl (hB.still RI.stable hs1) (List.getElem?_eq_getElem (by omega)) (fun w' hw' => same_heap (hw'.trans hw1.symm)) hw1 ?_
  rintro p2 _ rfl
  repeat' (first|refine X.U rfl ?_|refine X.V rfl ?_|refine X.W rfl ?_|refine X.Y rfl ?_|refine X.Z rfl ?_|refine WS.nil ?_|fail)
  repeat' (first|refine X.O ?_|refine X.A ?_|refine X.B ?_|refine X.C ?_|refine X.D ?_|refine X.E ?_|refine X.F ?_|refine X.G ?_|refine X.H ?_|refine X.I ?_|fail)
  first|refine X.J (fun _ => ?_) (fun _ => ?_)|refine X.L (fun _ => ?_) (fun _ => ?_)|refine X.M (fun _ => ?_) (fun _ => ?_)|refine X.R (fun _ => ?_) (fun _ => ?_)|fail
  · rename_i hne
    rw [if_pos hne] at h0
    repeat' (first|refine X.O ?_|refine X.A ?_|refine X.B ?_|refine X.C ?_|refine X.D ?_|refine X.E ?_|refine X.F ?_|refine X.G ?_|refine X.H ?_|refine X.I ?_|fail)
    refine ⟨_, ret1 rfl (by rfl), ?_⟩
    exact ⟨by rw [h0]; rfl, hs1.below _⟩
  rename_i hne
  rw [if_neg hne] at h0
  repeat' (first|refine X.O ?_|refine X.A ?_|refine X.B ?_|refine X.C ?_|refine X.D ?_|refine X.E ?_|refine X.F ?_|refine X.G ?_|refine X.H ?_|refine X.I ?_|fail)
  refine WL.call (l03All_any 6 (by omega) _) ?_
  rintro v2 w2 ⟨hS2, hbl2⟩
  have hz2 := hbl2.size
  have hz1 := hs1.size
  have hB2 : Below w.heap.size w w2 := (hs1.below _).trans (Below.mono hbl2 (by omega))
  have hR := OwSS.rd hS2
  have htl := treesTo_len
  obtain ⟨a2, c2, hv2⟩ := hR.shape
  rw [htl] at hv2
  subst hv2
  repeat' (first|refine X.O ?_|refine X.A ?_|refine X.B ?_|refine X.C ?_|refine X.D ?_|refine X.E ?_|refine X.F ?_|refine X.G ?_|refine X.H ?_|refine X.I ?_|fail)
  refine WP.loop (fun (i : Nat) => [(0, .slice aa 38 ca), (1, .slice ab 38 cb), (5, .slice a2 37 c2), (6, .int .i64 (i : Nat))])
    (fun i w3 => i ≤ 37 ∧ agreeL a b = agGo (placesN.drop (i + 1)) (a.drop (i + 1)) (b.drop (i + 1)) ∧ Still w2 w3)
    (fun i => 37 - i) 0 ⟨rfl, rfl, rfl, rfl, trivial⟩ ⟨by omega, h0, Still.refl _⟩ ?_
  rintro i w3 ⟨hi1, he, hs3⟩
  have hB3 : Below w.heap.size w w3 := hB2.trans (hs3.below _)
  repeat' (first|refine X.O ?_|refine X.A ?_|refine X.B ?_|refine X.C ?_|refine X.D ?_|refine X.E ?_|refine X.F ?_|refine X.G ?_|refine X.H ?_|refine X.I ?_|fail)
  first|refine X.J (fun _ => ?_) (fun _ => ?_)|refine X.L (fun _ => ?_) (fun _ => ?_)|refine X.M (fun _ => ?_) (fun _ => ?_)|refine X.R (fun _ => ?_) (fun _ => ?_)|fail
  · rename_i hlt
    have hli : i + 1 < a.length := by omega
    have hlj : i + 1 < b.length := by omega
    have hlp : i + 1 < placesN.length := by omega
    have hlt2 : i < (treesTo 6).length := by omega
    rw [agGo_drop hlp hli hlj, placesN_get hlp (by omega) (by simpa using hlt2)] at he
    have htt := (treesTo_ok (n := 6) (by omega) _ (List.getElem_mem hlt2)).2
    repeat' (first|refine X.O ?_|refine X.A ?_|refine X.B ?_|refine X.C ?_|refine X.D ?_|refine X.E ?_|refine X.F ?_|refine X.G ?_|refine X.H ?_|refine X.I ?_|fail)
    refine WP.drawn (fun w' => w'.heap = w3.heap) [(0, true), (1, true), (2, true), (3, true), (4, true), (5, true), (6, true), (7, true), (8, true), (9, true), (10, true)] (by kernel_rfl) mixed ?_
    intro w4 hs4
    have hw4 : w4.heap = w3.heap := hs4.heap
    have hB4 : Below w.heap.size w w4 := hB3.trans (hs4.below _)
    repeat' (first|refine X.U rfl ?_|refine X.V rfl ?_|refine X.W rfl ?_|refine X.Y rfl ?_|refine X.Z rfl ?_|refine WS.nil ?_|fail)
    refine WS.ixload (j := i + 1) rfl rfl (hA.below RI.stable hB4 hza) (List.getElem?_eq_getElem hli) (fun w' hw' => same_heap (hw'.trans hw4.symm)) hw4 ?_
    rintro p3 _ rfl
    repeat' (first|refine X.U rfl ?_|refine X.V rfl ?_|refine X.W rfl ?_|refine X.Y rfl ?_|refine X.Z rfl ?_|refine WS.nil ?_|fail)
    refine WS.ixload (j := i + 1) rfl rfl (hB.below RI.stable hB4 hzb) (List.getElem?_eq_getElem hlj) (fun w' hw' => same_heap (hw'.trans hw4.symm)) hw4 ?_
    rintro p4 _ rfl
    repeat' (first|refine X.U rfl ?_|refine X.V rfl ?_|refine X.W rfl ?_|refine X.Y rfl ?_|refine X.Z rfl ?_|refine WS.nil ?_|fail)
    repeat' (first|refine X.O ?_|refine X.A ?_|refine X.B ?_|refine X.C ?_|refine X.D ?_|refine X.E ?_|refine X.F ?_|refine X.G ?_|refine X.H ?_|refine X.I ?_|fail)
    first|refine X.J (fun _ => ?_) (fun _ => ?_)|refine X.L (fun _ => ?_) (fun _ => ?_)|refine X.M (fun _ => ?_) (fun _ => ?_)|refine X.R (fun _ => ?_) (fun _ => ?_)|fail
    · rename_i hne2
      rw [if_pos hne2] at he
      repeat' (first|refine X.O ?_|refine X.A ?_|refine X.B ?_|refine X.C ?_|refine X.D ?_|refine X.E ?_|refine X.F ?_|refine X.G ?_|refine X.H ?_|refine X.I ?_|fail)
      refine WL.ixload (j := i) ((hR.still IS.stable hs3).still IS.stable hs4) (List.getElem?_eq_getElem hlt2) ?_
      intro p5 u hu
      obtain ⟨au, cu, hvu⟩ := hu.shape
      subst hvu
      repeat' (first|refine X.O ?_|refine X.A ?_|refine X.B ?_|refine X.C ?_|refine X.D ?_|refine X.E ?_|refine X.F ?_|refine X.G ?_|refine X.H ?_|refine X.I ?_|fail)
      refine ⟨_, ret1 rfl (by rfl), ?_⟩
      exact ⟨by rw [he]; rfl, hB4⟩
    · rename_i hne2
      rw [if_neg hne2] at he
      repeat' (first|refine X.O ?_|refine X.A ?_|refine X.B ?_|refine X.C ?_|refine X.D ?_|refine X.E ?_|refine X.F ?_|refine X.G ?_|refine X.H ?_|refine X.I ?_|fail)
      exact ⟨i + 1, ⟨rfl, rfl, rfl, (by first|rfl|exact X.T (by omega)), trivial⟩, ⟨by omega, he, hs3.trans hs4⟩, by omega⟩
  · rename_i hge
    rw [agGo_end (by omega)] at he
    repeat' (first|refine X.O ?_|refine X.A ?_|refine X.B ?_|refine X.C ?_|refine X.D ?_|refine X.E ?_|refine X.F ?_|refine X.G ?_|refine X.H ?_|refine X.I ?_|fail)
    refine ⟨_, ret1 rfl (by rfl), ?_⟩
    exact ⟨by rw [he], hB3⟩
end Go.Proofs
/- AgreeTo, the reference's. -/
namespace Go.Rk
open Go.Fw Go.Proofs
def agreeTo (a b : List Int) : Int × Int := if isMap a = true ∧ isMap b = true then (agreeL a b, 0) else (0, 1)
theorem isMap_38 {a : List Int} (h : isMap a = true) : a.length = 38 := by
  unfold isMap at h
  rw [Bool.and_eq_true, decide_eq_true_eq] at h
  exact h.1
end Go.Rk
namespace Go.Proofs
open Go Go.Fw Go.RowKit Go.Rk
theorem sAgreeTo_any {la ha lb hb : Nat} {w : World} {va vb : Value} {a b : List Int} (hA : IS la ha w va a) (hB : IS lb hb w vb b) :
    Does Try.prog 8 [va, vb] w fun r w' => r = .tuple #[.int .i64 (agreeTo a b).1, .int .i64 (agreeTo a b).2] ∧ Chg 0 0 w w' := by
  refine Does.enter Try.func8 Try.ntmps8 rfl (by rfl) ?_
  repeat' (first|refine X.O ?_|refine X.A ?_|refine X.B ?_|refine X.C ?_|refine X.D ?_|refine X.E ?_|refine X.F ?_|refine X.G ?_|refine X.H ?_|refine X.I ?_|fail)
  refine WL.call (l07Is_any hA) ?_
  rintro _ w1 ⟨rfl, hs1⟩
  have hz1 := hs1.size
  by_cases h1 : isMap a = true
  · rw [h1]
    repeat' (first|refine X.O ?_|refine X.A ?_|refine X.B ?_|refine X.C ?_|refine X.D ?_|refine X.E ?_|refine X.F ?_|refine X.G ?_|refine X.H ?_|refine X.I ?_|fail)
    refine WL.call (l07Is_any (hB.still RI.stable hs1)) ?_
    rintro _ w2 ⟨rfl, hs2⟩
    have hs12 := hs1.trans hs2
    by_cases h2 : isMap b = true
    · rw [h2]
      repeat' (first|refine X.O ?_|refine X.A ?_|refine X.B ?_|refine X.C ?_|refine X.D ?_|refine X.E ?_|refine X.F ?_|refine X.G ?_|refine X.H ?_|refine X.I ?_|fail)
      refine WL.call (l07Agree_any (hA.still RI.stable hs12) (hB.still RI.stable hs12) (isMap_38 h1) (isMap_38 h2)) ?_
      rintro _ w3 ⟨rfl, hbl3⟩
      repeat' (first|refine X.O ?_|refine X.A ?_|refine X.B ?_|refine X.C ?_|refine X.D ?_|refine X.E ?_|refine X.F ?_|refine X.G ?_|refine X.H ?_|refine X.I ?_|fail)
      refine ⟨_, ret2 rfl (by rfl) (by rfl), ?_⟩
      have e : agreeTo a b = (agreeL a b, 0) := by unfold agreeTo; rw [if_pos ⟨h1, h2⟩]
      exact ⟨by rw [e], (Chg.of_still hs12).trans (Chg.of_below hbl3)⟩
    · rw [Bool.not_eq_true] at h2
      have e : agreeTo a b = (0, 1) := by unfold agreeTo; rw [if_neg (fun h => by rw [h2] at h; cases h.2)]
      rw [h2]
      repeat' (first|refine X.O ?_|refine X.A ?_|refine X.B ?_|refine X.C ?_|refine X.D ?_|refine X.E ?_|refine X.F ?_|refine X.G ?_|refine X.H ?_|refine X.I ?_|fail)
      refine ⟨_, ret2 rfl (by rfl) (by rfl), ?_⟩
      exact ⟨by rw [e], Chg.of_still hs12⟩
  · rw [Bool.not_eq_true] at h1
    have e : agreeTo a b = (0, 1) := by unfold agreeTo; rw [if_neg (fun h => by rw [h1] at h; cases h.1)]
    rw [h1]
    repeat' (first|refine X.O ?_|refine X.A ?_|refine X.B ?_|refine X.C ?_|refine X.D ?_|refine X.E ?_|refine X.F ?_|refine X.G ?_|refine X.H ?_|refine X.I ?_|fail)
    refine ⟨_, ret2 rfl (by rfl) (by rfl), ?_⟩
    exact ⟨by rw [e], Chg.of_still hs1⟩
end Go.Proofs
