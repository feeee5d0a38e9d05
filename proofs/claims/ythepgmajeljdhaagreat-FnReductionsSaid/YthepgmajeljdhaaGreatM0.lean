/- The dice of the laws: roll, below, mod9; what is at hand in a law's walk. -/
import Derived.Test.YthepgmajeljdhaaGreatD1
import Derived.Test.YthepgmajeljdhaaGreatG24
set_option maxRecDepth 8000
namespace Go.Fw
open Go Go.RowKit
/-- The dice sb over the code. -/
def Dice (sb : Nat) (w : World) : Prop := ∃ (lo hi : Nat) (cv : Value) (bs : List Int) (n : Nat) (h : Int), hi ≤ sb ∧ IU lo hi w cv bs ∧ n ≤ bs.length ∧ 0 ≤ h ∧ h ≤ 18446744073709551615 ∧ Blk w sb [cv, .int .i64 n, .int .u64 h] 57
theorem Dice.lt {sb : Nat} {w : World} (h : Dice sb w) : sb < w.heap.size := by obtain ⟨_, _, _, _, _, _, _, _, _, _, _, h⟩ := h; exact h.lt
theorem Dice.chg {sb a b : Nat} {w w' : World} (h : Dice sb w) (hc : Chg a b w w') (hd : sb < a ∨ b = 0) : Dice sb w' := by
  obtain ⟨lo, hi, cv, bs, n, h0, h1, h2, h3, h4, h5, h6⟩ := h
  exact ⟨lo, hi, cv, bs, n, h0, h1, SL.chg RU.stable h2 hc (by omega), h3, h4, h5, h6.chg hc (by omega)⟩
theorem Dice.below {sb B : Nat} {w w' : World} (h : Dice sb w) (hb : Below B w w') (hB : sb < B) : Dice sb w' := by
  obtain ⟨lo, hi, cv, bs, n, h0, h1, h2, h3, h4, h5, h6⟩ := h
  exact ⟨lo, hi, cv, bs, n, h0, h1, h2.below RU.stable hb (by omega), h3, h4, h5, h6.below hb hB⟩
/-- What a throw leaves. -/
structure Rolled (sb : Nat) (w w' : World) : Prop where
  src : Dice sb w'
  chg : Chg sb (sb + 1) w w'
theorem Rolled.trans {sb : Nat} {a b c : World} (h : Rolled sb a b) (h' : Rolled sb b c) : Rolled sb a c := ⟨h'.src, h.chg.trans h'.chg⟩
theorem Rolled.thenBelow {sb : Nat} {a b c : World} (h : Rolled sb a b) (h' : Below a.heap.size b c) (hs : sb < a.heap.size) : Rolled sb a c := ⟨h.src.below h' hs, h.chg.thenBelow h'⟩
theorem Rolled.refl {sb : Nat} {w : World} (h : Dice sb w) : Rolled sb w w := ⟨h, Chg.refl _ _ _⟩
end Go.Fw
namespace Go.Proofs
open Go Go.Fw Go.RowKit Go.Rk
theorem below_any {sb : Nat} {w : World} (h : Dice sb w) (n : Int) (hn : n ≤ 9223372036854775807) :
    Does Tryz.prog 21 [.pointer (some ⟨sb, 0, none⟩), .int .i64 n] w fun r w' => (∃ v, r = .int .i64 v ∧ (n < 1 → v = 0) ∧ (1 ≤ n → 0 ≤ v ∧ v < n)) ∧ Rolled sb w w' := by
  have h' := h
  obtain ⟨lo, hi, cv, bs, m, h0, hle, hcode, hm, h4, h5, hb⟩ := h
  obtain ⟨ac, cc, hcv⟩ := hcode.shape
  subst hcv
  have hlen := hcode.len
  unfold maxLen at hlen
  refine Does.enter Tryz.func21 Tryz.ntmps21 rfl (by rfl) ?_
  repeat' (first|refine X.O ?_|refine X.A ?_|refine X.B ?_|refine X.C ?_|refine X.D ?_|refine X.E ?_|refine X.F ?_|refine X.G ?_|refine X.H ?_|refine X.I ?_|fail)
  first|refine X.J (fun _ => ?_) (fun _ => ?_)|refine X.L (fun _ => ?_) (fun _ => ?_)|refine X.M (fun _ => ?_) (fun _ => ?_)|refine X.R (fun _ => ?_) (fun _ => ?_)|fail
  · rename_i hlt
    repeat' (first|refine X.O ?_|refine X.A ?_|refine X.B ?_|refine X.C ?_|refine X.D ?_|refine X.E ?_|refine X.F ?_|refine X.G ?_|refine X.H ?_|refine X.I ?_|fail)
    refine ⟨_, ret1 rfl (by rfl), ?_⟩
    exact ⟨⟨0, rfl, fun _ => rfl, fun h => by omega⟩, Rolled.refl h'⟩
  · rename_i hge
    repeat' (first|refine X.O ?_|refine X.A ?_|refine X.B ?_|refine X.C ?_|refine X.D ?_|refine X.E ?_|refine X.F ?_|refine X.G ?_|refine X.H ?_|refine X.I ?_|fail)
    refine WL.step (o_nilCheck (by rfl) ?_)
    refine WL.fld hb ?_
    intro p1
    refine WL.step (o_arithU (by rfl) (by rfl) (Or.inr ⟨rfl, rfl⟩) ?_)
    refine WL.step (o_arithU (by rfl) (by rfl) (Or.inl ⟨rfl, rfl⟩) ?_)
    refine WL.step (o_nilCheck (by rfl) ?_)
    refine WL.fldst hb ?_
    intro p2 w1 hb1 hbut1
    have hz1 := hbut1.size
    obtain ⟨hh, hhe⟩ : ∃ hh, IntKind.u64.wrap (IntKind.u64.wrap (h0 * 6364136223846793005) + 1442695040888963407) = hh := ⟨_, rfl⟩
    rw [hhe] at hb1
    have hhb : 0 ≤ hh ∧ hh ≤ 18446744073709551615 := by rw [← hhe]; exact wrap_u64_bd _
    have hb1' : Blk w1 sb [.slice ac bs.length cc, .int .i64 (m : Nat), .int .u64 hh] 57 := hb1
    have hcode1 := SL.chg RU.stable hcode hbut1.chg (by omega)
    repeat' (first|refine X.O ?_|refine X.A ?_|refine X.B ?_|refine X.C ?_|refine X.D ?_|refine X.E ?_|refine X.F ?_|refine X.G ?_|refine X.H ?_|refine X.I ?_|fail)
    refine WL.step (o_nilCheck (by rfl) ?_)
    refine WL.fld hb1' ?_
    intro p3
    refine WL.step (o_shr33 (by rfl) (by rfl) hhb.1 ?_)
    intro b1 hb10
    refine WL.step (o_and24 (by rfl) (by rfl) ?_)
    intro b2 hb20 hb21
    refine WL.step (o_convK (by rfl) (wrap_i64u hb20 (by omega)) ?_)
    repeat' (first|refine X.O ?_|refine X.A ?_|refine X.B ?_|refine X.C ?_|refine X.D ?_|refine X.E ?_|refine X.F ?_|refine X.G ?_|refine X.H ?_|refine X.I ?_|fail)
    refine WP.drawn (fun w' => w'.heap = w1.heap) [(0, true), (1, true), (2, true), (3, true), (4, true), (5, true), (6, true), (7, true), (8, true), (9, true)] (by kernel_rfl) mixed ?_
    intro w2 hs2
    have hw2 : w2.heap = w1.heap := hs2.heap
    repeat' (first|refine X.U rfl ?_|refine X.V rfl ?_|refine X.W rfl ?_|refine X.Y rfl ?_|refine X.Z rfl ?_|refine WS.nil ?_|fail)
    refine WS.q rfl (q_nilCheck (by rfl)) hw2 ?_
    refine WS.fld rfl rfl (fun w' h => hb1'.keep (by rw [h])) hw2 ?_
    intro p4
    repeat' (first|refine X.U rfl ?_|refine X.V rfl ?_|refine X.W rfl ?_|refine X.Y rfl ?_|refine X.Z rfl ?_|refine WS.nil ?_|fail)
    refine WS.q rfl (q_nilCheck (by rfl)) hw2 ?_
    refine WS.fld rfl rfl (fun w' h => hb1'.keep (by rw [h])) hw2 ?_
    intro p5
    repeat' (first|refine X.U rfl ?_|refine X.V rfl ?_|refine X.W rfl ?_|refine X.Y rfl ?_|refine X.Z rfl ?_|refine WS.nil ?_|fail)
    have hb2' := hb1'.still hs2
    have hcode2 := hcode1.still RU.stable hs2
    have hc2 : Chg sb (sb + 1) w w2 := hbut1.chg.trans (Chg.of_still hs2).none
    repeat' (first|refine X.O ?_|refine X.A ?_|refine X.B ?_|refine X.C ?_|refine X.D ?_|refine X.E ?_|refine X.F ?_|refine X.G ?_|refine X.H ?_|refine X.I ?_|fail)
    first|refine X.J (fun _ => ?_) (fun _ => ?_)|refine X.L (fun _ => ?_) (fun _ => ?_)|refine X.M (fun _ => ?_) (fun _ => ?_)|refine X.R (fun _ => ?_) (fun _ => ?_)|fail
    · rename_i hml
      have hlm : m < bs.length := by omega
      repeat' (first|refine X.O ?_|refine X.A ?_|refine X.B ?_|refine X.C ?_|refine X.D ?_|refine X.E ?_|refine X.F ?_|refine X.G ?_|refine X.H ?_|refine X.I ?_|fail)
      refine WP.drawn (fun w' => w'.heap = w2.heap) [(0, true), (1, true), (2, true), (3, true), (4, true), (5, true), (6, true), (7, true), (8, true), (9, true), (10, true), (11, true), (12, true), (13, true)] (by kernel_rfl) mixed ?_
      intro w3 hs3
      have hw3 : w3.heap = w2.heap := hs3.heap
      repeat' (first|refine X.U rfl ?_|refine X.V rfl ?_|refine X.W rfl ?_|refine X.Y rfl ?_|refine X.Z rfl ?_|refine WS.nil ?_|fail)
      refine WS.q rfl (q_nilCheck (by rfl)) hw3 ?_
      refine WS.fld rfl rfl (fun w' h => hb2'.keep (by rw [h])) hw3 ?_
      intro p6
      repeat' (first|refine X.U rfl ?_|refine X.V rfl ?_|refine X.W rfl ?_|refine X.Y rfl ?_|refine X.Z rfl ?_|refine WS.nil ?_|fail)
      refine WS.q rfl (q_nilCheck (by rfl)) hw3 ?_
      refine WS.fld rfl rfl (fun w' h => hb2'.keep (by rw [h])) hw3 ?_
      intro p7
      refine WS.ixload (j := m) rfl rfl (hcode2.still RU.stable hs3) (List.getElem?_eq_getElem hlm) (fun w' hw' => same_heap (hw'.trans hw3.symm)) hw3 ?_
      rintro p8 _ ⟨rfl, hu0, hu1⟩
      refine WS.q rfl (q_convK (by rfl) (wrap_i64u hu0 (by omega))) hw3 ?_
      repeat' (first|refine X.U rfl ?_|refine X.V rfl ?_|refine X.W rfl ?_|refine X.Y rfl ?_|refine X.Z rfl ?_|refine WS.nil ?_|fail)
      have hb3' := hb2'.still hs3
      have hcode3 := hcode2.still RU.stable hs3
      have hc3 : Chg sb (sb + 1) w w3 := hc2.trans (Chg.of_still hs3).none
      repeat' (first|refine X.O ?_|refine X.A ?_|refine X.B ?_|refine X.C ?_|refine X.D ?_|refine X.E ?_|refine X.F ?_|refine X.G ?_|refine X.H ?_|refine X.I ?_|fail)
      refine WL.step (o_nilCheck (by rfl) ?_)
      refine WL.fld hb3' ?_
      intro p9
      repeat' (first|refine X.O ?_|refine X.A ?_|refine X.B ?_|refine X.C ?_|refine X.D ?_|refine X.E ?_|refine X.F ?_|refine X.G ?_|refine X.H ?_|refine X.I ?_|fail)
      refine WL.step (o_nilCheck (by rfl) ?_)
      refine WL.fldst hb3' ?_
      intro p10 w4 hb4 hbut4
      have hz4 := hbut4.size
      have hc4 : Chg sb (sb + 1) w w4 := hc3.trans hbut4.chg
      repeat' (first|refine X.O ?_|refine X.A ?_|refine X.B ?_|refine X.C ?_|refine X.D ?_|refine X.E ?_|refine X.F ?_|refine X.G ?_|refine X.H ?_|refine X.I ?_|fail)
      refine WL.step (o_rem (by rfl) (by rfl) (by omega) ?_)
      repeat' (first|refine X.O ?_|refine X.A ?_|refine X.B ?_|refine X.C ?_|refine X.D ?_|refine X.E ?_|refine X.F ?_|refine X.G ?_|refine X.H ?_|refine X.I ?_|fail)
      refine ⟨_, ret1 rfl (by rfl), ?_⟩
      refine ⟨⟨_, rfl, fun h => by omega, fun h => ?_⟩, ⟨lo, hi, _, bs, m + 1, hh, hle, SL.chg RU.stable hcode3 hbut4.chg (by omega), by omega, hhb.1, hhb.2, hb4⟩, hc4⟩
      exact ⟨Int.tmod_nonneg _ (by omega), Int.tmod_lt_of_pos _ (by omega)⟩
    · rename_i hml
      repeat' (first|refine X.O ?_|refine X.A ?_|refine X.B ?_|refine X.C ?_|refine X.D ?_|refine X.E ?_|refine X.F ?_|refine X.G ?_|refine X.H ?_|refine X.I ?_|fail)
      refine WL.step (o_rem (by rfl) (by rfl) (by omega) ?_)
      repeat' (first|refine X.O ?_|refine X.A ?_|refine X.B ?_|refine X.C ?_|refine X.D ?_|refine X.E ?_|refine X.F ?_|refine X.G ?_|refine X.H ?_|refine X.I ?_|fail)
      refine ⟨_, ret1 rfl (by rfl), ?_⟩
      refine ⟨⟨_, rfl, fun h => by omega, fun h => ?_⟩, ⟨lo, hi, _, bs, m, hh, hle, hcode2, hm, hhb.1, hhb.2, hb2'⟩, hc2⟩
      exact ⟨Int.tmod_nonneg _ (by omega), Int.tmod_lt_of_pos _ (by omega)⟩
theorem rolled_own {sb lo : Nat} {w w' : World} {v : Value} {us : List Value} (h : Own lo 2 w v us) (hd : Rolled sb w w') (hs : sb < lo) : Own lo 2 w' v us :=
  h.keep fun k hk => hd.chg.block k (h.block k hk).2 (by have := (h.block k hk).1; omega)
theorem _root_.Go.Fw.Rolled.into {sb B : Nat} {w a c : World} (h : Rolled sb w a) (h' : Below B a c) (hB : w.heap.size ≤ B) (hs : sb < B) : Rolled sb w c :=
  ⟨h.src.below h' hs, ⟨h'.os.trans h.chg.os, h'.tape.trans h.chg.tape, h'.output.trans h.chg.output, Nat.le_trans h.chg.size h'.size, fun k hk hd => (h'.block k (by omega)).trans (h.chg.block k hk hd)⟩⟩
theorem roll_any {lo hi : Nat} {w : World} {v : Value} {bs : List Int} (h : IU lo hi w v bs) (hn : bs.length ≤ 4096) (seed : Int) (h0 : 0 ≤ seed) (h1 : seed ≤ 100000) :
    Does Tryz.prog 14 [v, .int .u64 seed] w fun r w' => r = .pointer (some ⟨w.heap.size, 0, none⟩) ∧ Dice w.heap.size w' ∧ Chg 0 0 w w' := by
  obtain ⟨a, c, hv⟩ := h.shape
  subst hv
  have hhl := h.hi_le
  refine Does.enter Tryz.func14 Tryz.ntmps14 rfl (by rfl) ?_
  repeat' (first|refine X.O ?_|refine X.A ?_|refine X.B ?_|refine X.C ?_|refine X.D ?_|refine X.E ?_|refine X.F ?_|refine X.G ?_|refine X.H ?_|refine X.I ?_|fail)
  refine WL.step (o_arithU (by rfl) (by rfl) (Or.inr ⟨rfl, rfl⟩) ?_)
  repeat' (first|refine X.O ?_|refine X.A ?_|refine X.B ?_|refine X.C ?_|refine X.D ?_|refine X.E ?_|refine X.F ?_|refine X.G ?_|refine X.H ?_|refine X.I ?_|fail)
  refine WL.step (o_convK (by rfl) (wrap_u64 (by omega) (by omega)) ?_)
  refine WL.step (o_arithU (by rfl) (by rfl) (Or.inl ⟨rfl, rfl⟩) ?_)
  obtain ⟨hh0, hhe0⟩ : ∃ hh0, IntKind.u64.wrap (IntKind.u64.wrap (seed * 8111) + (bs.length : Int)) = hh0 := ⟨_, rfl⟩
  have hb0 := wrap_u64_bd (IntKind.u64.wrap (seed * 8111) + (bs.length : Int))
  rw [hhe0] at hb0 ⊢
  refine WL.step (o_build (us := [.slice a bs.length c, .int .u64 hh0]) (cells := [.slice a bs.length c, .int .i64 0, .int .u64 hh0]) (by rfl) (by rfl) ?_)
  refine WL.step (o_box (by rfl) ?_)
  intro w1 hb1 hbl1 hz1
  repeat' (first|refine X.O ?_|refine X.A ?_|refine X.B ?_|refine X.C ?_|refine X.D ?_|refine X.E ?_|refine X.F ?_|refine X.G ?_|refine X.H ?_|refine X.I ?_|fail)
  refine WP.loop (fun (k : Nat) => [(0, .slice a bs.length c), (5, .pointer (some ⟨w.heap.size, 0, none⟩)), (6, .int .i64 (k : Nat))])
    (fun k w2 => k ≤ bs.length ∧ (∃ hh, 0 ≤ hh ∧ hh ≤ 18446744073709551615 ∧ Blk w2 w.heap.size [.slice a bs.length c, .int .i64 0, .int .u64 hh] 57) ∧ Below w.heap.size w w2 ∧ w2.heap.size = w.heap.size + 1)
    (fun k => bs.length - k) 0 ⟨rfl, rfl, rfl, trivial⟩ ⟨by omega, ⟨_, hb0.1, hb0.2, hb1⟩, hbl1, hz1⟩ ?_
  rintro k w2 ⟨hk, ⟨hh, hh0, hh1, hb2⟩, hbl2, hz2⟩
  have h2 := h.below RU.stable hbl2 hhl
  repeat' (first|refine X.O ?_|refine X.A ?_|refine X.B ?_|refine X.C ?_|refine X.D ?_|refine X.E ?_|refine X.F ?_|refine X.G ?_|refine X.H ?_|refine X.I ?_|fail)
  first|refine X.J (fun _ => ?_) (fun _ => ?_)|refine X.L (fun _ => ?_) (fun _ => ?_)|refine X.M (fun _ => ?_) (fun _ => ?_)|refine X.R (fun _ => ?_) (fun _ => ?_)|fail
  · rename_i hlt
    have hlt' : k < bs.length := by omega
    repeat' (first|refine X.O ?_|refine X.A ?_|refine X.B ?_|refine X.C ?_|refine X.D ?_|refine X.E ?_|refine X.F ?_|refine X.G ?_|refine X.H ?_|refine X.I ?_|fail)
    refine WP.forkedL (fun w' => w'.heap = w2.heap) [14, 15] (.q 0 (.q 1 (.q 2 (.q 3 (.q 4 (.q 5 (.q 6 (.q 7 (.q 8 (.q 9 (.q 10 (.q 11 (.q 12 (.q 13 (.o 14 (.o 15 .nil)))))))))))))))) (by kernel_rfl) mixed ?_
    intro w4 hs4
    have hw4 : w4.heap = w2.heap := hs4.heap
    refine WV.q rfl (q_s (by rfl)) hw4 ?_
    refine WV.q rfl (q_s (by rfl)) hw4 ?_
    refine WV.q rfl (q_nilCheck (by rfl)) hw4 ?_
    refine WV.fld rfl rfl (fun w' h => hb2.keep (by rw [h])) hw4 ?_
    intro p1
    refine WV.q rfl (q_arithU (by rfl) (by rfl) (Or.inr ⟨rfl, rfl⟩)) hw4 ?_
    refine WV.q rfl (q_s (by rfl)) hw4 ?_
    refine WV.q rfl (q_s (by rfl)) hw4 ?_
    refine WV.ixload (j := k) rfl rfl (h2.still RU.stable hs4) (List.getElem?_eq_getElem hlt') (fun w' hw' => same_heap (hw'.trans hw4.symm)) hw4 ?_
    rintro p2 _ ⟨rfl, hu0, hu1⟩
    refine WV.q rfl (q_convK (by rfl) (wrap_u64 hu0 (by omega))) hw4 ?_
    refine WV.q rfl (q_arithU (by rfl) (by rfl) (Or.inl ⟨rfl, rfl⟩)) hw4 ?_
    refine WV.q rfl (q_arithU (by rfl) (by rfl) (Or.inl ⟨rfl, rfl⟩)) hw4 ?_
    refine WV.q rfl (q_nilCheck (by rfl)) hw4 ?_
    refine WV.fldst rfl rfl (hb2.still hs4) ?_
    intro p3 w5 hb5 hbut5
    have hz5 := hbut5.size
    have hz4 := hs4.size
    refine WV.nil ?_
    repeat' (first|refine X.O ?_|refine X.A ?_|refine X.B ?_|refine X.C ?_|refine X.D ?_|refine X.E ?_|refine X.F ?_|refine X.G ?_|refine X.H ?_|refine X.I ?_|fail)
    exact ⟨k + 1, ⟨rfl, rfl, (by first|rfl|exact X.T (by omega)), trivial⟩, ⟨by omega, ⟨_, (wrap_u64_bd _).1, (wrap_u64_bd _).2, hb5⟩, (hbl2.trans (hs4.below _)).trans (hbut5.below (Nat.le_refl _)), by omega⟩, by omega⟩
  · repeat' (first|refine X.O ?_|refine X.A ?_|refine X.B ?_|refine X.C ?_|refine X.D ?_|refine X.E ?_|refine X.F ?_|refine X.G ?_|refine X.H ?_|refine X.I ?_|fail)
    refine ⟨_, ret1 rfl (by rfl), ?_⟩
    exact ⟨rfl, ⟨lo, hi, _, bs, 0, hh, hhl, h2, Nat.zero_le _, hh0, hh1, hb2⟩, Chg.of_below hbl2⟩
/-- A list of numbers that reads in a world. -/
def RD (w : World) (v : Value) (xs : List Int) : Prop := ∃ lo hi, IS lo hi w v xs
theorem RD.below {w w' : World} {v : Value} {xs : List Int} (h : RD w v xs) (hb : Below w.heap.size w w') : RD w' v xs := by
  obtain ⟨lo, hi, h⟩ := h
  exact ⟨lo, hi, h.below RI.stable hb h.hi_le⟩
/-- What stands under a number. -/
def lk : List (Nat × Value × List Int) → Nat → Option (Value × List Int)
  | [], _ => none
  | p :: l, k => bif Nat.beq p.1 k then some p.2 else lk l k
theorem lk_mem : ∀ {l : List (Nat × Value × List Int)} {k : Nat} {q : Value × List Int}, lk l k = some q → ∃ m, (m, q) ∈ l
  | p :: l, k, q, h => by
    unfold lk at h
    cases hb : Nat.beq p.1 k with
    | true => rw [hb] at h; simp only [cond_true, Option.some.injEq] at h; exact ⟨p.1, by rw [← h]; simp⟩
    | false => rw [hb] at h; obtain ⟨m, hm⟩ := lk_mem h; exact ⟨m, List.mem_cons_of_mem _ hm⟩
structure Have (w w1 : World) (l : List (Nat × Value × List Int)) : Prop where
  bel : Below w.heap.size w w1
  rd : ∀ p ∈ l, RD w1 p.2.1 p.2.2
section
variable {w w1 w2 : World} {l : List (Nat × Value × List Int)} {v : Value} {xs : List Int}
theorem Have.get (h : Have w w1 l) (i : Nat) (e : lk l i = some (v, xs)) : RD w1 v xs := by
  obtain ⟨m, hm⟩ := lk_mem e
  exact h.rd _ hm
theorem Have.next (h : Have w w1 l) (hb : Below w1.heap.size w1 w2) : Have w w2 l := ⟨h.bel.trans (Below.mono hb h.bel.size), fun p hp => (h.rd p hp).below hb⟩
theorem Have.add (h : Have w w1 l) (k : Nat) (hr : RD w1 v xs) : Have w w1 ((k, v, xs) :: l) := ⟨h.bel, fun p hp => by
  rcases List.mem_cons.1 hp with rfl | hp
  · exact hr
  · exact h.rd p hp⟩
theorem NewI.rd (h : NewI w1 v w2 xs) : RD w2 v xs := ⟨_, _, h.1.toIS (Nat.zero_le _)⟩
theorem Have.new (h : Have w w1 l) (k : Nat) (hn : NewI w1 v w2 xs) : Have w w2 ((k, v, xs) :: l) := (h.next hn.2).add k hn.rd
theorem Have.still (h : Have w w1 l) (hs : Still w1 w2) : Have w w2 l := h.next (hs.below _)
theorem Have.chg (h : Have w w1 l) (hc : Chg 0 0 w1 w2) : Have w w2 l := h.next (hc.below (Nat.le_refl _) (Or.inr (Nat.le_refl _)))
end
/-- The same beside a dice. -/
structure HaveD (sb : Nat) (w w1 : World) (l : List (Nat × Value × List Int)) : Prop where
  dice : Dice sb w1
  low : w.heap.size ≤ sb
  bel : Below w.heap.size w w1
  rd : ∀ p ∈ l, ∃ lo hi, (hi ≤ sb ∨ sb < lo) ∧ IS lo hi w1 p.2.1 p.2.2
section
variable {sb : Nat} {w w1 w2 : World} {l : List (Nat × Value × List Int)} {v : Value} {xs : List Int}
theorem HaveD.lt (h : HaveD sb w w1 l) : sb < w1.heap.size := h.dice.lt
theorem Have.roll (h : Have w w1 l) (hd : Dice w1.heap.size w2) (hc : Chg 0 0 w1 w2) : HaveD w1.heap.size w w2 l :=
  ⟨hd, h.bel.size, (h.chg hc).bel, fun p hp => by
    obtain ⟨lo, hi, hr⟩ := h.rd p hp
    exact ⟨lo, hi, Or.inl hr.hi_le, RI.chg hr hc (Or.inr (Nat.zero_le _))⟩⟩
theorem HaveD.get (h : HaveD sb w w1 l) (i : Nat) (e : lk l i = some (v, xs)) : RD w1 v xs := by
  obtain ⟨m, hm⟩ := lk_mem e
  obtain ⟨lo, hi, _, hr⟩ := h.rd _ hm
  exact ⟨lo, hi, hr⟩
theorem HaveD.next (h : HaveD sb w w1 l) (hb : Below w1.heap.size w1 w2) : HaveD sb w w2 l :=
  ⟨h.dice.below hb h.lt, h.low, h.bel.trans (Below.mono hb h.bel.size), fun p hp => by
    obtain ⟨lo, hi, hd, hr⟩ := h.rd p hp
    exact ⟨lo, hi, hd, hr.below RI.stable hb hr.hi_le⟩⟩
theorem HaveD.new (h : HaveD sb w w1 l) (k : Nat) (hn : NewI w1 v w2 xs) : HaveD sb w w2 ((k, v, xs) :: l) :=
  have h2 := h.next hn.2
  ⟨h2.dice, h2.low, h2.bel, fun p hp => by
    rcases List.mem_cons.1 hp with rfl | hp
    · exact ⟨_, _, Or.inr h.lt, hn.1.toIS (Nat.le_refl _)⟩
    · exact h2.rd p hp⟩
theorem HaveD.still (h : HaveD sb w w1 l) (hs : Still w1 w2) : HaveD sb w w2 l := h.next (hs.below _)
theorem HaveD.chg (h : HaveD sb w w1 l) (hc : Chg 0 0 w1 w2) : HaveD sb w w2 l := h.next (hc.below (Nat.le_refl _) (Or.inr (Nat.le_refl _)))
theorem HaveD.rolled (h : HaveD sb w w1 l) (hd : Rolled sb w1 w2) : HaveD sb w w2 l :=
  ⟨hd.src, h.low, h.bel.trans (hd.chg.below h.bel.size (Or.inl h.low)), fun p hp => by
    obtain ⟨lo, hi, hx, hr⟩ := h.rd p hp
    exact ⟨lo, hi, hx, RI.chg hr hd.chg (by omega)⟩⟩
theorem HaveD.map9 (h : HaveD sb w w1 l) (hd : Rolled sb w1 w2) (k : Nat) (ho : Own w1.heap.size 2 w2 v (Ints xs)) : HaveD sb w w2 ((k, v, xs) :: l) :=
  have h2 := h.rolled hd
  ⟨h2.dice, h2.low, h2.bel, fun p hp => by
    rcases List.mem_cons.1 hp with rfl | hp
    · exact ⟨_, _, Or.inr h.lt, ho.toIS (Nat.le_refl _)⟩
    · exact h2.rd p hp⟩
theorem HaveD.have (h : HaveD sb w w1 l) : Have w w1 l := ⟨h.bel, fun p hp => by
  obtain ⟨lo, hi, _, hr⟩ := h.rd p hp
  exact ⟨lo, hi, hr⟩⟩
end
theorem likeInts_rd {w : World} {v v' : Value} {xs ys : List Int} (h : RD w v xs) (h' : RD w v' ys) (e : xs = ys) : Does Tryz.prog 30 [v, v'] w fun r w' => r = .bool true ∧ Still w w' := by
  obtain ⟨_, _, h⟩ := h; obtain ⟨_, _, h'⟩ := h'
  have := likeInts_any h h'
  rwa [decide_eq_true e] at this
end Go.Proofs
