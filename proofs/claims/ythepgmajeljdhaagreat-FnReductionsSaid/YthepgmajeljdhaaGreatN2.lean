/- Drawn tableaus with superfluous stages: l10Backwards, l10Loose. -/
import Derived.Test.YthepgmajeljdhaaGreatN1
import Derived.Test.YthepgmajeljdhaaGreatA39
import Derived.Test.YthepgmajeljdhaaGreatA11
import Derived.Test.YthepgmajeljdhaaGreatPlB
set_option maxRecDepth 8000
namespace Go.Rk
open Go.Fw Go.Proofs
/-- A tableau of m stages that grows: the first j rows have a number more. -/
structure Gr (m j : Nat) (x : TabD) : Prop where
  len : x.1.length = m
  row : ∀ i (h : i < x.1.length), x.1[i].length = (if i < j then m + 1 else m) ∧ allN x.1[i] = true
  last : x.2.length = m ∧ allN x.2 = true
theorem Gr.of {x : TabD} (h : Tab x) : Gr x.2.length 0 x := ⟨h.sq, fun i hi => by rw [if_neg (by omega)]; exact h.row _ (List.getElem_mem hi), rfl, h.last⟩
theorem Gr.push {m j : Nat} {x : TabD} (h : Gr m j x) {r : List Int} (h1 : r.length = m + 1) (h2 : allN r = true) : Gr m (j + 1) (x.1.set j r, x.2) :=
  ⟨by simp [h.len], fun i hi => by
    simp only [List.length_set] at hi
    by_cases e : j = i
    · subst e
      simp only [List.getElem_set_self]
      rw [if_pos (by omega)]; exact ⟨h1, h2⟩
    · simp only [List.getElem_set_ne e]
      have := h.row i hi
      by_cases e2 : i < j
      · rw [if_pos e2] at this; rw [if_pos (by omega)]; exact this
      · rw [if_neg e2] at this; rw [if_neg (by omega)]; exact this, h.last⟩
theorem Gr.change {m j : Nat} {x : TabD} (h : Gr m j x) {i : Nat} (hi : i < x.1.length) {r : List Int} (h1 : r.length = x.1[i].length) (h2 : allN r = true) : Gr m j (x.1.set i r, x.2) :=
  ⟨by simp [h.len], fun k hk => by
    simp only [List.length_set] at hk
    by_cases e : i = k
    · subst e
      simp only [List.getElem_set_self]
      rw [h1]; exact ⟨(h.row i hi).1, h2⟩
    · simp only [List.getElem_set_ne e]; exact h.row k hk, h.last⟩
theorem allN_snoc {xs : List Int} {y : Int} (h : allN xs = true) (hy : isN y = true) : allN (xs ++ [y]) = true := by unfold allN at *; rw [List.all_append, h]; simp [hy]
/-- Grown by a row and a number: a tableau of one stage more. -/
theorem Gr.tab {m : Nat} {x : TabD} (h : Gr m m x) (h7 : m < 7) {r b : List Int} (hr : r.length = m + 1) (hra : allN r = true) (hb : b.length = m + 1) (hba : allN b = true) : Tab (x.1 ++ [r], b) :=
  ⟨by dsimp only; omega, by dsimp only; omega, by simp [h.len, hb], hba, fun q hq => by
    dsimp only
    rcases List.mem_append.1 hq with hq | hq
    · obtain ⟨i, hi, rfl⟩ := List.getElem_of_mem hq
      have := h.row i hi
      rw [if_pos (by have := h.len; omega)] at this
      exact ⟨by omega, this.2⟩
    · rw [List.mem_singleton.1 hq]; exact ⟨by omega, hra⟩⟩
end Go.Rk
namespace Go.Proofs
open Go Go.Fw Go.RowKit Go.Rk
theorem l10Backwards_any (n : Nat) (hn : n ≤ 8) (w : World) : Does Tryz.prog 64 [.int .i64 (n : Nat)] w fun r w' => ∃ o, NewI w r w' o ∧ OrdOk n o ∧ o.length = n := by
  refine Does.enter Tryz.func64 Tryz.ntmps64 rfl (by rfl) ?_
  repeat' (first|refine X.O ?_|refine X.A ?_|refine X.B ?_|refine X.C ?_|refine X.D ?_|refine X.E ?_|refine X.F ?_|refine X.G ?_|refine X.H ?_|refine X.I ?_|fail)
  refine WL.step (o_lit (us := []) (by rfl) (by rfl) rfl (by decide) one0 ?_)
  intro v1 w1 hown1 hbl1 hz1 _
  repeat' (first|refine X.O ?_|refine X.A ?_|refine X.B ?_|refine X.C ?_|refine X.D ?_|refine X.E ?_|refine X.F ?_|refine X.G ?_|refine X.H ?_|refine X.I ?_|fail)
  refine WP.loop (fun (s : Nat × Value × List Int) => [(3, s.2.1), (4, .int .i64 ((s.1 : Nat) - 1 : Int))])
    (fun s w2 => s.1 + s.2.2.length = n ∧ OrdOk n s.2.2 ∧ Own w.heap.size 2 w2 s.2.1 (Ints s.2.2) ∧ Below w.heap.size w w2)
    (fun s => s.1) (n, v1, []) ⟨rfl, rfl, trivial⟩ ⟨by simp, fun o ho => by simp at ho, hown1, hbl1⟩ ?_
  rintro ⟨i, vo, o⟩ w2 ⟨hi1, ho, hown2, hbl2⟩
  dsimp only at hi1 ho hown2 ⊢
  have hz2 := hbl2.size
  repeat' (first|refine X.O ?_|refine X.A ?_|refine X.B ?_|refine X.C ?_|refine X.D ?_|refine X.E ?_|refine X.F ?_|refine X.G ?_|refine X.H ?_|refine X.I ?_|fail)
  first|refine X.J (fun _ => ?_) (fun _ => ?_)|refine X.L (fun _ => ?_) (fun _ => ?_)|refine X.M (fun _ => ?_) (fun _ => ?_)|refine X.R (fun _ => ?_) (fun _ => ?_)|fail
  · rename_i hge
    obtain ⟨k, rfl⟩ : ∃ k, i = k + 1 := ⟨i - 1, by omega⟩
    have ek : (((k + 1 : Nat) : Int) - 1) = ((k : Nat) : Int) := by omega
    rw [ek]
    repeat' (first|refine X.O ?_|refine X.A ?_|refine X.B ?_|refine X.C ?_|refine X.D ?_|refine X.E ?_|refine X.F ?_|refine X.G ?_|refine X.H ?_|refine X.I ?_|fail)
    refine o_append1 (u := .int .i64 (k : Nat)) (fun _ => by rfl) (by rfl) hown2 rfl (by rw [Ints_length]; unfold maxLen; omega) (by rw [Ints_length]; omega) (by omega) ?_
    intro p v3 w3 hown3 hbl3 _ hz3 _
    repeat' (first|refine X.O ?_|refine X.A ?_|refine X.B ?_|refine X.C ?_|refine X.D ?_|refine X.E ?_|refine X.F ?_|refine X.G ?_|refine X.H ?_|refine X.I ?_|fail)
    exact ⟨(k, v3, o ++ [(k : Int)]), ⟨rfl, (by first|rfl|exact X.T (by omega)), trivial⟩, ⟨by simp; omega, ho.snoc (by omega), by dsimp only; rw [Ints_append]; exact hown3, hbl2.trans hbl3⟩, by dsimp only; omega⟩
  · rename_i hge
    have : i = 0 := by omega
    subst this
    repeat' (first|refine X.O ?_|refine X.A ?_|refine X.B ?_|refine X.C ?_|refine X.D ?_|refine X.E ?_|refine X.F ?_|refine X.G ?_|refine X.H ?_|refine X.I ?_|fail)
    refine ⟨_, ret1 rfl (by rfl), ?_⟩
    exact ⟨o, ⟨hown2, hbl2⟩, ho, by omega⟩
set_option maxHeartbeats 8000000 in
theorem l10Loose_any {sb : Nat} {w : World} (h : Srce sb w) : Does Tryz.prog 32 [.pointer (some ⟨sb, 0, none⟩)] w fun r w' => (∃ x, IT w.heap.size w'.heap.size w' r x) ∧ Drew sb w w' := by
  have hlt := h.lt
  refine Does.enter Tryz.func32 Tryz.ntmps32 rfl (by rfl) ?_
  repeat' (first|refine X.O ?_|refine X.A ?_|refine X.B ?_|refine X.C ?_|refine X.D ?_|refine X.E ?_|refine X.F ?_|refine X.G ?_|refine X.H ?_|refine X.I ?_|fail)
  refine WL.step (o_alloc ?_)
  intro w1 hb1 hbl1 hz1
  have hd1 : Drew sb w w1 := (Drew.refl h).thenBelow hbl1 hlt
  repeat' (first|refine X.O ?_|refine X.A ?_|refine X.B ?_|refine X.C ?_|refine X.D ?_|refine X.E ?_|refine X.F ?_|refine X.G ?_|refine X.H ?_|refine X.I ?_|fail)
  refine WL.call (l09Draw_tab hd1.src 4 (by omega) (by omega)) ?_
  rintro v2 w2 ⟨⟨x, tX, hT2⟩, hdr2⟩
  have hz2 := hdr2.chg.size
  have hd2 := hd1.trans hdr2
  obtain ⟨va, vb, vs, rfl, oT⟩ := hT2
  obtain ⟨aa, ca, hva, _⟩ := oT.rows.own.shape
  obtain ⟨ab, cb, hvb, _⟩ := oT.last.own.shape
  have hone : ∀ y ∈ [va, vb], y.oneCell' = true := by rw [hva, hvb]; exact two_cells
  refine WL.var (vs := [va, vb]) (fun _ => by rfl) (by rfl) hone ?_
  intro w3 hb3 hbl3 hz3
  obtain ⟨b5, hb5⟩ : ∃ b5, w2.heap.size = b5 := ⟨_, rfl⟩
  obtain ⟨b4, hb4⟩ : ∃ b4, w.heap.size = b4 := ⟨_, rfl⟩
  have hd3 := hd2.thenBelow (Below.mono hbl3 (by omega)) hlt
  have hc3 : Chg w2.heap.size w2.heap.size w2 w3 := Below.chg hbl3 (Nat.le_refl _)
  have hL : LT sb b4 b5 w w3 va vb vs x := ⟨hb4, by omega, by omega, by rw [← hb4]; exact (hb1.chg hdr2.chg (by omega)).below hbl3 (by omega), by rw [← hb5]; exact hb3, (oT.rows.chg hc3 (by omega)).wide (by omega) (by omega) (Nat.le_refl _), (oT.last.chg hc3 (by omega)).wide (by omega) (by omega) (Nat.le_refl _), oT.apart, hd3⟩
  clear hb3 hbl3 hz3 hc3 hd3 oT hva hvb hone hb1 hbl1 hz1 hd1 hdr2 hz2 hd2
  rw [hb5, hb4]
  repeat' (first|refine X.O ?_|refine X.A ?_|refine X.B ?_|refine X.C ?_|refine X.D ?_|refine X.E ?_|refine X.F ?_|refine X.G ?_|refine X.H ?_|refine X.I ?_|fail)
  refine WL.call (l01Next_any hL.drew.src 3 (by omega)) ?_
  rintro _ w4 ⟨⟨n0, rfl, _, hn0⟩, hd4⟩
  have hn0 := hn0 (by omega)
  replace hL := hL.draw hd4
  repeat' (first|refine X.O ?_|refine X.A ?_|refine X.B ?_|refine X.C ?_|refine X.D ?_|refine X.E ?_|refine X.F ?_|refine X.G ?_|refine X.H ?_|refine X.I ?_|fail)
  refine WP.midB3 (fun l' y => Agree l' [(0, .pointer (some ⟨sb, 0, none⟩)), (2, .pointer (some ⟨b4, 0, none⟩)), (3, .pointer (some ⟨b5, 0, none⟩))] ∧ ∃ va vb vs x, LT sb b4 b5 w y va vb vs x ∧ Tab x) ?_ ?_
  · refine WP.loop (fun (n : Nat) => [(0, .pointer (some ⟨sb, 0, none⟩)), (2, .pointer (some ⟨b4, 0, none⟩)), (3, .pointer (some ⟨b5, 0, none⟩)), (4, .int .i64 (n : Nat))])
      (fun n y => n ≤ 3 ∧ ∃ va vb vs x, LT sb b4 b5 w y va vb vs x ∧ Tab x)
      (fun n => n) n0.toNat ⟨rfl, rfl, rfl, X.T (by omega), trivial⟩ ⟨by omega, va, vb, vs, x, hL, tX⟩ ?_
    clear hL tX hd4
    rintro n w5 ⟨hn3, va, vb, vs, x, hL, tX⟩
    obtain ⟨ab, cb, hvb, _⟩ := hL.last.own.shape
    rw [Ints_length] at hvb
    have hp := tX.pos
    have h8 := tX.le8
    subst hvb
    have hmsz : b4 + 1 ≤ w5.heap.size := by have := hL.b5lt; have := hL.b45; omega
    repeat' (first|refine X.O ?_|refine X.A ?_|refine X.B ?_|refine X.C ?_|refine X.D ?_|refine X.E ?_|refine X.F ?_|refine X.G ?_|refine X.H ?_|refine X.I ?_|fail)
    refine WL.gsplitD (by rfl) (by rfl) (by rfl) (fun hpos => ?_) (fun hno => ?_)
    case refine_2 =>
      repeat' (first|refine X.O ?_|refine X.A ?_|refine X.B ?_|refine X.C ?_|refine X.D ?_|refine X.E ?_|refine X.F ?_|refine X.G ?_|refine X.H ?_|refine X.I ?_|fail)
      exact ⟨⟨rfl, rfl, rfl, trivial⟩, _, _, _, _, hL, tX⟩
    repeat' (first|refine X.O ?_|refine X.A ?_|refine X.B ?_|refine X.C ?_|refine X.D ?_|refine X.E ?_|refine X.F ?_|refine X.G ?_|refine X.H ?_|refine X.I ?_|fail)
    refine WL.fld hL.var ?_
    intro p1
    repeat' (first|refine X.O ?_|refine X.A ?_|refine X.B ?_|refine X.C ?_|refine X.D ?_|refine X.E ?_|refine X.F ?_|refine X.G ?_|refine X.H ?_|refine X.I ?_|fail)
    first|refine X.J (fun _ => ?_) (fun _ => ?_)|refine X.L (fun _ => ?_) (fun _ => ?_)|refine X.M (fun _ => ?_) (fun _ => ?_)|refine X.R (fun _ => ?_) (fun _ => ?_)|fail
    case refine_2 =>
      repeat' (first|refine X.O ?_|refine X.A ?_|refine X.B ?_|refine X.C ?_|refine X.D ?_|refine X.E ?_|refine X.F ?_|refine X.G ?_|refine X.H ?_|refine X.I ?_|fail)
      exact ⟨⟨rfl, rfl, rfl, trivial⟩, _, _, _, _, hL, tX⟩
    rename_i h7'
    have h7 : x.2.length < 7 := by omega
    repeat' (first|refine X.O ?_|refine X.A ?_|refine X.B ?_|refine X.C ?_|refine X.D ?_|refine X.E ?_|refine X.F ?_|refine X.G ?_|refine X.H ?_|refine X.I ?_|fail)
    --BODY
    have hb5z := hL.b5lt
    have hlow := hL.b45
    have hlow2 := hL.low
    refine WP.drawn (fun w' => Chg sb (sb + 1) w5 w') [(0, true), (1, true), (2, true), (3, true), (5, true), (6, true), (7, true), (4, false), (8, true), (9, true)] (by kernel_rfl) mixed ?_
    intro w6 hs6
    have hS6 : Chg sb (sb + 1) w5 w6 := (Chg.of_still hs6).none
    have hL6 := hL.still hs6
    repeat' (first|refine X.U rfl ?_|refine X.V rfl ?_|refine X.W rfl ?_|refine X.Y rfl ?_|refine X.Z rfl ?_|refine WS.nil ?_|fail)
    refine WS.fld rfl rfl (fun w' h => hL.var.chg h (by omega)) hS6 ?_
    intro p2
    repeat' (first|refine X.U rfl ?_|refine X.V rfl ?_|refine X.W rfl ?_|refine X.Y rfl ?_|refine X.Z rfl ?_|refine WS.nil ?_|fail)
    refine WS.fld rfl rfl (fun w' h => hL.var.chg h (by omega)) hS6 ?_
    intro p3
    repeat' (first|refine X.U rfl ?_|refine X.V rfl ?_|refine X.W rfl ?_|refine X.Y rfl ?_|refine X.Z rfl ?_|refine WS.nil ?_|fail)
    refine WS.call rfl (l01Next_any hL6.drew.src x.2.length (by omega)) ?_
    rintro _ w7 ⟨⟨iI, rfl, _, hi⟩, hd7⟩
    have hi := hi (by omega)
    have hS7 := hS6.trans hd7.chg
    refine ⟨hS7, ?_⟩
    repeat' (first|refine X.U rfl ?_|refine X.V rfl ?_|refine X.W rfl ?_|refine X.Y rfl ?_|refine X.Z rfl ?_|refine WS.nil ?_|fail)
    have hL7 := hL6.draw hd7
    have hG := Gr.of tX
    obtain ⟨i, rfl⟩ : ∃ i : Nat, iI = (i : Int) := ⟨iI.toNat, by omega⟩
    obtain ⟨m, hm⟩ : ∃ m, x.2.length = m := ⟨_, rfl⟩
    rw [hm] at hL7 hi h7 hp hG ⊢
    clear hL hL6 hS6 hS7 hs6 hd7 hmsz
    repeat' (first|refine X.O ?_|refine X.A ?_|refine X.B ?_|refine X.C ?_|refine X.D ?_|refine X.E ?_|refine X.F ?_|refine X.G ?_|refine X.H ?_|refine X.I ?_|fail)
    refine WL.call (l01Next_any hL7.drew.src 2 (by omega)) ?_
    rintro _ w8 ⟨⟨c, rfl, _, _⟩, hd8⟩
    have hL := hL7.draw hd8
    clear hL7 hd8
    have hmsz : b4 + 1 ≤ w8.heap.size := by have := hL.b5lt; have := hL.b45; omega
    repeat' (first|refine X.O ?_|refine X.A ?_|refine X.B ?_|refine X.C ?_|refine X.D ?_|refine X.E ?_|refine X.F ?_|refine X.G ?_|refine X.H ?_|refine X.I ?_|fail)
    first|refine X.J (fun _ => ?_) (fun _ => ?_)|refine X.L (fun _ => ?_) (fun _ => ?_)|refine X.M (fun _ => ?_) (fun _ => ?_)|refine X.R (fun _ => ?_) (fun _ => ?_)|fail
    · repeat' (first|refine X.O ?_|refine X.A ?_|refine X.B ?_|refine X.C ?_|refine X.D ?_|refine X.E ?_|refine X.F ?_|refine X.G ?_|refine X.H ?_|refine X.I ?_|fail)
      refine WP.loop (fun (j : Nat) => [(0, .pointer (some ⟨sb, 0, none⟩)), (2, .pointer (some ⟨b4, 0, none⟩)), (3, .pointer (some ⟨b5, 0, none⟩)), (4, .int .i64 (n : Nat)), (5, .int .i64 (i : Nat)), (6, .int .i64 (m : Nat)), (7, .int .i64 (j : Nat))]) (fun j y => j ≤ m ∧ ∃ va vb vs z, LT sb b4 b5 w y va vb vs z ∧ Gr m j z) (fun j => m - j) 0 ⟨rfl, rfl, rfl, rfl, rfl, rfl, rfl, trivial⟩ ⟨by omega, va, _, vs, x, hL, hG⟩ ?_
      clear hL hG tX
      rintro j w9 ⟨hjm, va, vb, vs, y, hL, hG⟩
      have hmsz : b4 + 1 ≤ w9.heap.size := by have := hL.b5lt; have := hL.b45; omega
      repeat' (first|refine X.O ?_|refine X.A ?_|refine X.B ?_|refine X.C ?_|refine X.D ?_|refine X.E ?_|refine X.F ?_|refine X.G ?_|refine X.H ?_|refine X.I ?_|fail)
      first|refine X.J (fun _ => ?_) (fun _ => ?_)|refine X.L (fun _ => ?_) (fun _ => ?_)|refine X.M (fun _ => ?_) (fun _ => ?_)|refine X.R (fun _ => ?_) (fun _ => ?_)|fail
      · rename_i hjm'
        have hjm2 : j < m := by omega
        repeat' (first|refine X.O ?_|refine X.A ?_|refine X.B ?_|refine X.C ?_|refine X.D ?_|refine X.E ?_|refine X.F ?_|refine X.G ?_|refine X.H ?_|refine X.I ?_|fail)
        refine WL.call (l01Number_any hL.drew.src) ?_
        rintro _ w5 ⟨⟨z, rfl, hz0, hz1⟩, hd5⟩
        have hzN : isN z = true := by simp [isN]; omega
        replace hL := hL.draw hd5
        clear hd5 hmsz
        repeat' (first|refine X.O ?_|refine X.A ?_|refine X.B ?_|refine X.C ?_|refine X.D ?_|refine X.E ?_|refine X.F ?_|refine X.G ?_|refine X.H ?_|refine X.I ?_|fail)
        have hjx : j < y.1.length := by rw [hG.len]; omega
        have hjv : j < vs.length := by rw [hL.rows.len]; exact hjx
        obtain ⟨u, hu⟩ : ∃ u, vs[j] = u := ⟨_, rfl⟩
        have hu0 : vs[j]? = some u := by rw [List.getElem?_eq_getElem hjv, hu]
        obtain ⟨ys, hys⟩ : ∃ ys, y.1[j] = ys := ⟨_, rfl⟩
        have hx0 : y.1[j]? = some ys := by rw [List.getElem?_eq_getElem hjx, hys]
        have hrow := hL.rows.rows j u ys hu0 hx0
        have hgr := hG.row j hjx
        rw [hys, if_neg (by omega)] at hgr
        obtain ⟨g, cg, hvg, hg1, hg2, _, _, hob⟩ := hL.rows.own.cell (i := j) hu0
        have hug : u.ownBlock ≠ some g := hL.rows.own.ne_block hrow.own hL.rows.ne hob
        have hub5 := hrow.own.outB hL.var (by decide)
        have hlow := hL.b45
        have hb5z := hL.b5lt
        subst hvg
        refine WP.drawn (fun w' => w5.heap.size ≤ w'.heap.size ∧ ∀ k, k < w5.heap.size → u.ownBlock ≠ some k → w'.heap[k]? = w5.heap[k]?) [(0, true), (1, true), (2, true), (3, true), (4, true), (5, true), (6, true), (7, true), (8, true), (9, false), (10, false), (11, true), (1012, false)] (by kernel_rfl) mixed ?_
        intro w6 hs6
        have hz6 := hs6.size
        have hS6 : w5.heap.size ≤ w6.heap.size ∧ ∀ k, k < w5.heap.size → u.ownBlock ≠ some k → w6.heap[k]? = w5.heap[k]? := ⟨by omega, fun k _ _ => by rw [hs6.heap]⟩
        have own6 := hL.rows.own.still hs6
        refine WS.fld rfl rfl (fun w' h => hL.var.keep (h.2 b5 hb5z hub5)) hS6 ?_
        intro p1
        repeat' (first|refine X.U rfl ?_|refine X.V rfl ?_|refine X.W rfl ?_|refine X.Y rfl ?_|refine X.Z rfl ?_|refine WS.nil ?_|fail)
        refine WS.fld rfl rfl (fun w' h => hL.var.keep (h.2 b5 hb5z hub5)) hS6 ?_
        intro p2
        repeat' (first|refine X.U rfl ?_|refine X.V rfl ?_|refine X.W rfl ?_|refine X.Y rfl ?_|refine X.Z rfl ?_|refine WS.nil ?_|fail)
        refine WS.ixload (R := fun _ _ _ u x => u = x) (xs := vs) (a := u) (j := j) (lo := g) (hi := g + 1) rfl rfl ((own6.raise hob).toSL (R := fun _ _ _ u x => u = x) (xs := vs) rfl (Nat.le_refl _) (hi := g + 1) (fun k hk => by rw [hob] at hk; simp only [Option.some.injEq] at hk; omega) (by omega) (fun i u x hu hx => by rw [hu] at hx; simpa using hx)) hu0 (fun w' hw' k hk1 hk2 => ?_) hS6 ?_
        · obtain rfl : k = g := by omega
          rw [hw'.2 k (by omega) hug, hS6.2 k (by omega) hug]
        intro p3 u' hu'
        rw [show u' = u from hu']
        clear hu' u'
        repeat' (first|refine X.U rfl ?_|refine X.V rfl ?_|refine X.W rfl ?_|refine X.Y rfl ?_|refine X.Z rfl ?_|refine WS.nil ?_|fail)
        refine WS.op rfl (o_lit (us := [.int .i64 z]) (by rfl) (by rfl) rfl (by decide) (one1 rfl) ?_)
        intro v7 w7 hown7 hbl7 hz7 _
        have hS7 : w5.heap.size ≤ w7.heap.size ∧ ∀ k, k < w5.heap.size → u.ownBlock ≠ some k → w7.heap[k]? = w5.heap[k]? := ⟨by omega, fun k hk hk2 => by rw [hbl7.block k (by omega)]; exact hS6.2 k hk hk2⟩
        refine ⟨hS7, ?_⟩
        refine WS.op rfl (o_appendK (us := Ints ys) (news := [.int .i64 z]) (by rfl) (by rfl) ((hrow.own.still hs6).below hbl7 (Nat.le_refl _)) hown7.src (one1 rfl) (by rw [Ints_length]; simp [maxLen]; omega) (by rw [Ints_length]; simp; omega) (by omega) (by simp) ?_)
        intro v8 w8 hown8 hg8 hbl8 hk8
        have hz8 := hg8.size
        have hf8 : ∀ k, k < w5.heap.size → u.ownBlock ≠ some k → w8.heap[k]? = w5.heap[k]? := fun k hk hk2 => by rw [hg8.block k (by omega) (fun e => hk2 e.symm)]; exact hS7.2 k hk hk2
        have hS8 : w5.heap.size ≤ w8.heap.size ∧ ∀ k, k < w5.heap.size → u.ownBlock ≠ some k → w8.heap[k]? = w5.heap[k]? := ⟨by omega, hf8⟩
        refine ⟨hS8, ?_⟩
        obtain ⟨a8, c8, hv8, _⟩ := hown8.shape
        have own8 := hL.rows.own.keep (w' := w8) fun k hk => hf8 k (hL.rows.own.block k hk).2 (hL.rows.own.ne_block hrow.own hL.rows.ne hk)
        refine WS.ixstore (j := j) rfl rfl hS8 own8 hjv ?_ (hu := by rw [hv8]; rfl)
        intro p5 w9 hown9 hbl9 hz9 hf9
        have hL9 := hL.pushRow (zs := ys ++ [z]) hu0 hx0 (by rw [Ints_append]; exact hown8) (((hs6.below _).trans (Below.mono hbl7 (by omega))).trans hbl8) hf8 (fun k hk => (hk8 k hk).imp id (fun h => by omega)) hown9 hbl9 hz9 hf9
        have hG9 := hG.push (j := j) (r := ys ++ [z]) (by simp [hgr.1]) (allN_snoc hgr.2 (by first | exact hzN | simp [isN]))
        clear hown9 hbl9 hz9 hf9 own8 hv8 hS8 hf8 hk8 hbl8 hg8 hown8 hz8 hS7 hz7 hbl7 hown7 hS6 hs6 own6 hgr hrow hL hG
        refine WS.nil ?_
        have hL := hL9
        have hG := hG9
        clear hL9 hG9
        obtain ⟨y2, hy2⟩ : ∃ y2 : TabD, (y.1.set j (ys ++ [z]), y.2) = y2 := ⟨_, rfl⟩
        rw [hy2] at hL hG
        obtain ⟨vs2, hvs2⟩ : ∃ vs2, vs.set j v8 = vs2 := ⟨_, rfl⟩
        rw [hvs2] at hL
        obtain ⟨va, hva⟩ : ∃ va, Value.slice (some ⟨g, 0, none⟩) vs.length cg = va := ⟨_, rfl⟩
        rw [hva] at hL
        repeat' (first|refine X.O ?_|refine X.A ?_|refine X.B ?_|refine X.C ?_|refine X.D ?_|refine X.E ?_|refine X.F ?_|refine X.G ?_|refine X.H ?_|refine X.I ?_|fail)
        have hjx : j < y2.1.length := by rw [hG.len]; omega
        have hjv : j < vs2.length := by rw [hL.rows.len]; exact hjx
        obtain ⟨u, hu⟩ : ∃ u, vs2[j] = u := ⟨_, rfl⟩
        have hu0 : vs2[j]? = some u := by rw [List.getElem?_eq_getElem hjv, hu]
        obtain ⟨ys, hys⟩ : ∃ ys, y2.1[j] = ys := ⟨_, rfl⟩
        have hx0 : y2.1[j]? = some ys := by rw [List.getElem?_eq_getElem hjx, hys]
        have hrow := hL.rows.rows j u ys hu0 hx0
        have hgr := hG.row j hjx
        rw [hys, if_pos (by omega)] at hgr
        have hil : i < ys.length := by omega
        have hbd := allN_get hgr.2 hil
        refine WP.drawn (fun w' => Still w9 w') [(0, true), (1, true), (2, true), (3, true), (4, true), (5, true), (6, true), (7, true), (8, true), (9, true), (10, true), (11, true), (12, true), (13, true), (14, true), (15, false), (16, true), (1017, false)] (by kernel_rfl) mixed ?_
        intro w6 hs6
        have own6 := hL.rows.own.still hs6
        have hrow6 := hrow.own.still hs6
        have rowSL : SL (fun _ _ _ u x => u = x) (b4 + 1) w6.heap.size w6 va vs2 := own6.toSL rfl (Nat.le_refl _) (fun k hk => (own6.block k hk).2) (Nat.le_refl _) (fun i u x hu hx => by rw [hu] at hx; simpa using hx)
        have hSm : ∀ w', Still w9 w' → Same (b4 + 1) w6.heap.size w6 w' := fun w' h => same_heap (by rw [h.heap, hs6.heap])
        refine WS.fld rfl rfl (fun w' h => hL.var.keep (by rw [h.heap])) hs6 ?_
        intro p1
        repeat' (first|refine X.U rfl ?_|refine X.V rfl ?_|refine X.W rfl ?_|refine X.Y rfl ?_|refine X.Z rfl ?_|refine WS.nil ?_|fail)
        refine WS.ixload (j := j) rfl rfl rowSL hu0 hSm hs6 ?_
        intro p3 u' hu'
        rw [show u' = u from hu']
        clear hu' u'
        repeat' (first|refine X.U rfl ?_|refine X.V rfl ?_|refine X.W rfl ?_|refine X.Y rfl ?_|refine X.Z rfl ?_|refine WS.nil ?_|fail)
        refine WS.fld rfl rfl (fun w' h => hL.var.keep (by rw [h.heap])) hs6 ?_
        intro p2
        repeat' (first|refine X.U rfl ?_|refine X.V rfl ?_|refine X.W rfl ?_|refine X.Y rfl ?_|refine X.Z rfl ?_|refine WS.nil ?_|fail)
        refine WS.ixload (j := j) rfl rfl rowSL hu0 hSm hs6 ?_
        intro p4 u' hu'
        rw [show u' = u from hu']
        clear hu' u'
        repeat' (first|refine X.U rfl ?_|refine X.V rfl ?_|refine X.W rfl ?_|refine X.Y rfl ?_|refine X.Z rfl ?_|refine WS.nil ?_|fail)
        refine WS.ixload (j := i) rfl rfl (hrow6.toIS (Nat.le_refl _)) (List.getElem?_eq_getElem hil) hSm hs6 ?_
        intro p5 u' hu'
        rw [show u' = .int .i64 ys[i] from hu']
        clear hu' u'
        repeat' (first|refine X.U rfl ?_|refine X.V rfl ?_|refine X.W rfl ?_|refine X.Y rfl ?_|refine X.Z rfl ?_|refine WS.nil ?_|fail)
        refine WS.call rfl (l01Sub_any ys[i] z _ (by unfold InI; omega)) ?_
        rintro _ w7 ⟨rfl, rfl⟩
        refine ⟨hs6, ?_⟩
        refine WS.ixstore (j := i) rfl rfl hs6 hrow6 (by rw [Ints_length]; exact hil) ?_
        intro p6 w8 hown8 hbl8 hz8 hf8
        rw [Ints_set] at hown8
        have hL8 := (hL.still hs6).setRow hu0 hx0 hown8 hbl8 hz8 hf8
        have hG8 := hG.change (i := j) hjx (r := ys.set i (nm (ys[i] - z))) (by rw [hys]; simp) (allN_set hgr.2 _ _ (nm_isN _))
        refine WS.nil ?_
        repeat' (first|refine X.O ?_|refine X.A ?_|refine X.B ?_|refine X.C ?_|refine X.D ?_|refine X.E ?_|refine X.F ?_|refine X.G ?_|refine X.H ?_|refine X.I ?_|fail)
        exact ⟨j + 1, ⟨rfl, rfl, rfl, rfl, rfl, rfl, X.T (by omega), trivial⟩, ⟨by omega, _, _, _, _, hL8, hG8⟩, by omega⟩
      · rename_i hjm'
        have : j = m := by omega
        subst this
        clear hmsz
        obtain ⟨m, hm⟩ : ∃ m, j = m := ⟨_, rfl⟩
        rw [hm] at hG h7 hi hjm ⊢
        repeat' (first|refine X.O ?_|refine X.A ?_|refine X.B ?_|refine X.C ?_|refine X.D ?_|refine X.E ?_|refine X.F ?_|refine X.G ?_|refine X.H ?_|refine X.I ?_|fail)
        have hjx : i < y.1.length := by rw [hG.len]; omega
        have hjv : i < vs.length := by rw [hL.rows.len]; exact hjx
        obtain ⟨u, hu⟩ : ∃ u, vs[i] = u := ⟨_, rfl⟩
        have hu0 : vs[i]? = some u := by rw [List.getElem?_eq_getElem hjv, hu]
        obtain ⟨ys, hys⟩ : ∃ ys, y.1[i] = ys := ⟨_, rfl⟩
        have hx0 : y.1[i]? = some ys := by rw [List.getElem?_eq_getElem hjx, hys]
        have hrow := hL.rows.rows i u ys hu0 hx0
        have hgr := hG.row i hjx
        rw [hys, if_pos (by omega)] at hgr
        obtain ⟨g, cg, hvg, hg1, hg2, hcell, _, hob⟩ := hL.rows.own.cell (i := i) hu0
        have hva5 := hL.rows.own.outB hL.var (by decide)
        have hlow := hL.b45
        have hlow2 := hL.low
        have hsz0 := hL.size0
        have hb5z := hL.b5lt
        have hvl : vs.length = m := by rw [hL.rows.len, hG.len]
        subst hvg
        refine WP.drawn (fun w' => w9.heap.size ≤ w'.heap.size ∧ ∀ k, k < w9.heap.size → some g ≠ some k → w'.heap[k]? = w9.heap[k]?) [(0, true), (1, true), (2, true), (3, true), (4, true), (5, true), (6, false), (7, false), (8, false), (9, false), (10, true), (1011, false)] (by kernel_rfl) mixed ?_
        intro w6 hs6
        have hz6 := hs6.size
        have hS6 : w9.heap.size ≤ w6.heap.size ∧ ∀ k, k < w9.heap.size → some g ≠ some k → w6.heap[k]? = w9.heap[k]? := ⟨by omega, fun k _ _ => by rw [hs6.heap]⟩
        have own6 := hL.rows.own.still hs6
        have hrow6 := hrow.own.still hs6
        refine WS.fld rfl rfl (fun w' h => hL.var.keep (h.2 b5 hb5z hva5)) hS6 ?_
        intro p1
        refine WS.fld rfl rfl (fun w' h => hL.var.keep (h.2 b5 hb5z hva5)) hS6 ?_
        intro p2
        repeat' (first|refine X.U rfl ?_|refine X.V rfl ?_|refine X.W rfl ?_|refine X.Y rfl ?_|refine X.Z rfl ?_|refine WS.nil ?_|fail)
        refine WS.q rfl (q_ix (by rfl) (by rfl) (by omega) (by omega)) hS6 ?_
        refine WS.op rfl (o_load (look_cons_self _ _ _) (by obtain ⟨g', cg', hv', _, _, hc', _, _⟩ := own6.cell (i := i) hu0; simp only [Value.slice.injEq, Option.some.injEq, Addr.mk.injEq, and_true, true_and] at hv'; obtain ⟨rfl, _⟩ := hv'; simpa using hc') ?_)
        refine ⟨hS6, ?_⟩
        refine WS.call rfl (l01Own_any (hrow6.toIS (Nat.le_refl _)) (by omega)) ?_
        rintro r7 w7 ⟨hown7, hbl7⟩
        have hz7 := hbl7.size
        obtain ⟨a7, c7, hv7, _⟩ := hown7.shape
        subst hv7
        have hS7 : w9.heap.size ≤ w7.heap.size ∧ ∀ k, k < w9.heap.size → some g ≠ some k → w7.heap[k]? = w9.heap[k]? := ⟨by omega, fun k hk hk2 => by rw [hbl7.block k (by omega)]; exact hS6.2 k hk hk2⟩
        refine ⟨hS7, ?_⟩
        refine WS.op rfl (o_lit (us := [.slice a7 (Ints ys).length c7]) (by rfl) (by rfl) rfl (by decide) (one1 rfl) ?_)
        intro v8 w8 hown8 hbl8 hz8 _
        have hS8 : w9.heap.size ≤ w8.heap.size ∧ ∀ k, k < w9.heap.size → some g ≠ some k → w8.heap[k]? = w9.heap[k]? := ⟨by omega, fun k hk hk2 => by rw [hbl8.block k (by omega)]; exact hS7.2 k hk hk2⟩
        refine ⟨hS8, ?_⟩
        refine WS.op rfl (o_appendK (us := vs) (news := [.slice a7 (Ints ys).length c7]) (by rfl) (by rfl) ((own6.below hbl7 (Nat.le_refl _)).below hbl8 (Nat.le_refl _)) hown8.src (one1 rfl) (by simp [maxLen]; omega) (by simp; omega) (by omega) (by simp) ?_)
        intro v10 w10 hown10 hg10 hbl10 hk10
        have hz10 := hg10.size
        have hf10 : ∀ k, k < w8.heap.size → some g ≠ some k → w10.heap[k]? = w8.heap[k]? := fun k hk hk2 => hg10.block k hk (fun e => hk2 e.symm)
        have hS10 : w9.heap.size ≤ w10.heap.size ∧ ∀ k, k < w9.heap.size → some g ≠ some k → w10.heap[k]? = w9.heap[k]? := ⟨by omega, fun k hk hk2 => by rw [hf10 k (by omega) hk2]; exact hS8.2 k hk hk2⟩
        refine ⟨hS10, ?_⟩
        obtain ⟨a10, c10, hv10, _⟩ := hown10.shape
        subst hv10
        refine WS.fldst rfl rfl (hL.var.keep (hS10.2 b5 hb5z hva5)) hS10 ?_
        intro p11 w11 hb11 hbut11
        have hW8 : Below w9.heap.size w9 w8 := ((hs6.below _).trans (Below.mono hbl7 (by omega))).trans (Below.mono hbl8 (by omega))
        have hr8 := hown7.below hbl8 (Nat.le_refl _)
        have hL11 := hL.addRow (Chg.of_below hW8).none (hL.drew.thenBelow (Below.mono hW8 (by omega)) (by omega)) (ys := ys) ⟨hr8.lower (by omega), fun k hk => (hr8.block k hk).2, Nat.le_refl _⟩ hown10 hbl10 hf10 hb11 hbut11
        refine WS.nil ?_
        clear hr8 hW8 hbut11 hb11 hS10 hf10 hz10 hk10 hbl10 hg10 hown10 hS8 hz8 hbl8 hown8 hS7 hz7 hbl7 hown7 hrow6 own6 hS6 hz6 hs6 hL
        have hmsz : b4 + 1 ≤ w11.heap.size := by have := hL11.b5lt; have := hL11.b45; omega
        repeat' (first|refine X.O ?_|refine X.A ?_|refine X.B ?_|refine X.C ?_|refine X.D ?_|refine X.E ?_|refine X.F ?_|refine X.G ?_|refine X.H ?_|refine X.I ?_|fail)
        refine WL.call (l01Number_any hL11.drew.src) ?_
        rintro _ w5 ⟨⟨z2, rfl, hz0, hz1⟩, hd5⟩
        have hzN : isN z2 = true := by simp [isN]; omega
        have hL := hL11.draw hd5
        have hyl := hG.last.1
        repeat' (first|refine X.O ?_|refine X.A ?_|refine X.B ?_|refine X.C ?_|refine X.D ?_|refine X.E ?_|refine X.F ?_|refine X.G ?_|refine X.H ?_|refine X.I ?_|fail)
        refine WL.fld hL.var ?_
        intro p1
        repeat' (first|refine X.O ?_|refine X.A ?_|refine X.B ?_|refine X.C ?_|refine X.D ?_|refine X.E ?_|refine X.F ?_|refine X.G ?_|refine X.H ?_|refine X.I ?_|fail)
        refine o_append1K (u := .int .i64 z2) (fun _ => by rfl) (by rfl) hL.last.own rfl (by rw [Ints_length]; dsimp only; unfold maxLen; omega) (by rw [Ints_length]; dsimp only; omega) (by have := hL.b5lt; have := hL.b45; omega) ?_
        intro p2 v6 w6 hown6 hbl6 hf6 hz6 hk6
        obtain ⟨a6, c6, hv6, _⟩ := hown6.shape
        subst hv6
        refine WL.fldst (hL.var.keep (hf6 b5 hL.b5lt (hL.last.own.outB hL.var (by decide)))) ?_
        intro p3 w7 hb7 hbut7
        have hL7 := hL.putLast (ys := y.2 ++ [z2]) (by rw [Ints_append]; exact hown6) hbl6 hf6 hk6 hb7 hbut7
        clear hown6 hbl6 hf6 hz6 hk6 hb7 hbut7 hL
        have hL := hL7
        clear hL7
        obtain ⟨bs, hbs⟩ : ∃ bs, y.2 ++ [z2] = bs := ⟨_, rfl⟩
        have hbl : bs.length = m + 1 := by rw [← hbs]; simp [hyl]
        have hba : allN bs = true := by rw [← hbs]; exact allN_snoc hG.last.2 hzN
        dsimp only at hL
        rw [hbs] at hL
        repeat' (first|refine X.O ?_|refine X.A ?_|refine X.B ?_|refine X.C ?_|refine X.D ?_|refine X.E ?_|refine X.F ?_|refine X.G ?_|refine X.H ?_|refine X.I ?_|fail)
        have hil : i < bs.length := by omega
        have hbd := allN_get hba hil
        have hlow2 := hL.low
        have hb5z := hL.b5lt
        refine WP.drawn (fun w' => Still w7 w') [(0, true), (1, true), (2, true), (3, true), (4, true), (5, true), (6, true), (7, true), (8, true), (9, false), (10, true), (1011, false)] (by kernel_rfl) mixed ?_
        intro w8 hs8
        have own8 := hL.last.own.still hs8
        have hSm : ∀ w', Still w7 w' → Same (b4 + 1) w8.heap.size w8 w' := fun w' h => same_heap (by rw [h.heap, hs8.heap])
        refine WS.fld rfl rfl (fun w' h => hL.var.keep (by rw [h.heap])) hs8 ?_
        intro p1
        repeat' (first|refine X.U rfl ?_|refine X.V rfl ?_|refine X.W rfl ?_|refine X.Y rfl ?_|refine X.Z rfl ?_|refine WS.nil ?_|fail)
        refine WS.fld rfl rfl (fun w' h => hL.var.keep (by rw [h.heap])) hs8 ?_
        intro p2
        repeat' (first|refine X.U rfl ?_|refine X.V rfl ?_|refine X.W rfl ?_|refine X.Y rfl ?_|refine X.Z rfl ?_|refine WS.nil ?_|fail)
        refine WS.ixload (j := i) rfl rfl (own8.toIS (Nat.le_refl _)) (List.getElem?_eq_getElem hil) hSm hs8 ?_
        intro p5 u' hu'
        rw [show u' = .int .i64 bs[i] from hu']
        clear hu' u'
        repeat' (first|refine X.U rfl ?_|refine X.V rfl ?_|refine X.W rfl ?_|refine X.Y rfl ?_|refine X.Z rfl ?_|refine WS.nil ?_|fail)
        refine WS.call rfl (l01Sub_any bs[i] z2 _ (by unfold InI; omega)) ?_
        rintro _ w10 ⟨rfl, rfl⟩
        refine ⟨hs8, ?_⟩
        refine WS.ixstore (j := i) rfl rfl hs8 own8 (by rw [Ints_length]; exact hil) ?_
        intro p6 w11 hown11 hbl11 hz11 hf11
        rw [Ints_set] at hown11
        have hL8 := hL.still hs8
        have hL11 := hL8.putLast hown11 hbl11 (fun k _ h => hf11 k h) (fun k h => Or.inl h) (hL8.var.keep (hf11 b5 (hL8.last.own.outB hL8.var (by decide)))) (But.refl _ _)
        refine WS.nil ?_
        repeat' (first|refine X.O ?_|refine X.A ?_|refine X.B ?_|refine X.C ?_|refine X.D ?_|refine X.E ?_|refine X.F ?_|refine X.G ?_|refine X.H ?_|refine X.I ?_|fail)
        exact ⟨n - 1, ⟨rfl, rfl, rfl, X.T (by omega), trivial⟩, ⟨by omega, _, _, _, _, hL11, hG.tab h7 hgr.1 hgr.2 (by rw [List.length_set]; exact hbl) (allN_set hba _ _ (nm_isN _))⟩, by omega⟩
    · repeat' (first|refine X.O ?_|refine X.A ?_|refine X.B ?_|refine X.C ?_|refine X.D ?_|refine X.E ?_|refine X.F ?_|refine X.G ?_|refine X.H ?_|refine X.I ?_|fail)
      refine WP.loop (fun (j : Nat) => [(0, .pointer (some ⟨sb, 0, none⟩)), (2, .pointer (some ⟨b4, 0, none⟩)), (3, .pointer (some ⟨b5, 0, none⟩)), (4, .int .i64 (n : Nat)), (5, .int .i64 (i : Nat)), (6, .int .i64 (m : Nat)), (10, .int .i64 (j : Nat))]) (fun j y => j ≤ m ∧ ∃ va vb vs z, LT sb b4 b5 w y va vb vs z ∧ Gr m j z) (fun j => m - j) 0 ⟨rfl, rfl, rfl, rfl, rfl, rfl, rfl, trivial⟩ ⟨by omega, va, _, vs, x, hL, hG⟩ ?_
      clear hL hG tX
      rintro j w9 ⟨hjm, va, vb, vs, y, hL, hG⟩
      have hmsz : b4 + 1 ≤ w9.heap.size := by have := hL.b5lt; have := hL.b45; omega
      repeat' (first|refine X.O ?_|refine X.A ?_|refine X.B ?_|refine X.C ?_|refine X.D ?_|refine X.E ?_|refine X.F ?_|refine X.G ?_|refine X.H ?_|refine X.I ?_|fail)
      first|refine X.J (fun _ => ?_) (fun _ => ?_)|refine X.L (fun _ => ?_) (fun _ => ?_)|refine X.M (fun _ => ?_) (fun _ => ?_)|refine X.R (fun _ => ?_) (fun _ => ?_)|fail
      · rename_i hjm'
        have hjm2 : j < m := by omega
        repeat' (first|refine X.O ?_|refine X.A ?_|refine X.B ?_|refine X.C ?_|refine X.D ?_|refine X.E ?_|refine X.F ?_|refine X.G ?_|refine X.H ?_|refine X.I ?_|fail)
        have hjx : j < y.1.length := by rw [hG.len]; omega
        have hjv : j < vs.length := by rw [hL.rows.len]; exact hjx
        obtain ⟨u, hu⟩ : ∃ u, vs[j] = u := ⟨_, rfl⟩
        have hu0 : vs[j]? = some u := by rw [List.getElem?_eq_getElem hjv, hu]
        obtain ⟨ys, hys⟩ : ∃ ys, y.1[j] = ys := ⟨_, rfl⟩
        have hx0 : y.1[j]? = some ys := by rw [List.getElem?_eq_getElem hjx, hys]
        have hrow := hL.rows.rows j u ys hu0 hx0
        have hgr := hG.row j hjx
        rw [hys, if_neg (by omega)] at hgr
        obtain ⟨g, cg, hvg, hg1, hg2, _, _, hob⟩ := hL.rows.own.cell (i := j) hu0
        have hug : u.ownBlock ≠ some g := hL.rows.own.ne_block hrow.own hL.rows.ne hob
        have hub5 := hrow.own.outB hL.var (by decide)
        have hlow := hL.b45
        have hb5z := hL.b5lt
        subst hvg
        refine WP.drawn (fun w' => w9.heap.size ≤ w'.heap.size ∧ ∀ k, k < w9.heap.size → u.ownBlock ≠ some k → w'.heap[k]? = w9.heap[k]?) [(0, true), (1, true), (2, true), (3, true), (4, true), (5, true), (6, true), (7, true), (8, false), (9, false), (10, true), (1011, false)] (by kernel_rfl) mixed ?_
        intro w6 hs6
        have hz6 := hs6.size
        have hS6 : w9.heap.size ≤ w6.heap.size ∧ ∀ k, k < w9.heap.size → u.ownBlock ≠ some k → w6.heap[k]? = w9.heap[k]? := ⟨by omega, fun k _ _ => by rw [hs6.heap]⟩
        have own6 := hL.rows.own.still hs6
        refine WS.fld rfl rfl (fun w' h => hL.var.keep (h.2 b5 hb5z hub5)) hS6 ?_
        intro p1
        repeat' (first|refine X.U rfl ?_|refine X.V rfl ?_|refine X.W rfl ?_|refine X.Y rfl ?_|refine X.Z rfl ?_|refine WS.nil ?_|fail)
        refine WS.fld rfl rfl (fun w' h => hL.var.keep (h.2 b5 hb5z hub5)) hS6 ?_
        intro p2
        repeat' (first|refine X.U rfl ?_|refine X.V rfl ?_|refine X.W rfl ?_|refine X.Y rfl ?_|refine X.Z rfl ?_|refine WS.nil ?_|fail)
        refine WS.ixload (R := fun _ _ _ u x => u = x) (xs := vs) (a := u) (j := j) (lo := g) (hi := g + 1) rfl rfl ((own6.raise hob).toSL (R := fun _ _ _ u x => u = x) (xs := vs) rfl (Nat.le_refl _) (hi := g + 1) (fun k hk => by rw [hob] at hk; simp only [Option.some.injEq] at hk; omega) (by omega) (fun i u x hu hx => by rw [hu] at hx; simpa using hx)) hu0 (fun w' hw' k hk1 hk2 => ?_) hS6 ?_
        · obtain rfl : k = g := by omega
          rw [hw'.2 k (by omega) hug, hS6.2 k (by omega) hug]
        intro p3 u' hu'
        rw [show u' = u from hu']
        clear hu' u'
        repeat' (first|refine X.U rfl ?_|refine X.V rfl ?_|refine X.W rfl ?_|refine X.Y rfl ?_|refine X.Z rfl ?_|refine WS.nil ?_|fail)
        refine WS.op rfl (o_lit (us := [.int .i64 0]) (by rfl) (by rfl) rfl (by decide) (one1 rfl) ?_)
        intro v7 w7 hown7 hbl7 hz7 _
        have hS7 : w9.heap.size ≤ w7.heap.size ∧ ∀ k, k < w9.heap.size → u.ownBlock ≠ some k → w7.heap[k]? = w9.heap[k]? := ⟨by omega, fun k hk hk2 => by rw [hbl7.block k (by omega)]; exact hS6.2 k hk hk2⟩
        refine ⟨hS7, ?_⟩
        refine WS.op rfl (o_appendK (us := Ints ys) (news := [.int .i64 0]) (by rfl) (by rfl) ((hrow.own.still hs6).below hbl7 (Nat.le_refl _)) hown7.src (one1 rfl) (by rw [Ints_length]; simp [maxLen]; omega) (by rw [Ints_length]; simp; omega) (by omega) (by simp) ?_)
        intro v8 w8 hown8 hg8 hbl8 hk8
        have hz8 := hg8.size
        have hf8 : ∀ k, k < w9.heap.size → u.ownBlock ≠ some k → w8.heap[k]? = w9.heap[k]? := fun k hk hk2 => by rw [hg8.block k (by omega) (fun e => hk2 e.symm)]; exact hS7.2 k hk hk2
        have hS8 : w9.heap.size ≤ w8.heap.size ∧ ∀ k, k < w9.heap.size → u.ownBlock ≠ some k → w8.heap[k]? = w9.heap[k]? := ⟨by omega, hf8⟩
        refine ⟨hS8, ?_⟩
        obtain ⟨a8, c8, hv8, _⟩ := hown8.shape
        have own8 := hL.rows.own.keep (w' := w8) fun k hk => hf8 k (hL.rows.own.block k hk).2 (hL.rows.own.ne_block hrow.own hL.rows.ne hk)
        refine WS.ixstore (j := j) rfl rfl hS8 own8 hjv ?_ (hu := by rw [hv8]; rfl)
        intro p5 w9 hown9 hbl9 hz9 hf9
        have hL9 := hL.pushRow (zs := ys ++ [0]) hu0 hx0 (by rw [Ints_append]; exact hown8) (((hs6.below _).trans (Below.mono hbl7 (by omega))).trans hbl8) hf8 (fun k hk => (hk8 k hk).imp id (fun h => by omega)) hown9 hbl9 hz9 hf9
        have hG9 := hG.push (j := j) (r := ys ++ [0]) (by simp [hgr.1]) (allN_snoc hgr.2 (by first | exact hzN | simp [isN]))
        clear hown9 hbl9 hz9 hf9 own8 hv8 hS8 hf8 hk8 hbl8 hg8 hown8 hz8 hS7 hz7 hbl7 hown7 hS6 hs6 own6 hgr hrow hL hG
        refine WS.nil ?_
        repeat' (first|refine X.O ?_|refine X.A ?_|refine X.B ?_|refine X.C ?_|refine X.D ?_|refine X.E ?_|refine X.F ?_|refine X.G ?_|refine X.H ?_|refine X.I ?_|fail)
        exact ⟨j + 1, ⟨rfl, rfl, rfl, rfl, rfl, rfl, X.T (by omega), trivial⟩, ⟨by omega, _, _, _, _, hL9, hG9⟩, by omega⟩
      · rename_i hjm'
        have : j = m := by omega
        subst this
        clear hmsz
        obtain ⟨m, hm⟩ : ∃ m, j = m := ⟨_, rfl⟩
        rw [hm] at hG h7 hi hjm ⊢
        repeat' (first|refine X.O ?_|refine X.A ?_|refine X.B ?_|refine X.C ?_|refine X.D ?_|refine X.E ?_|refine X.F ?_|refine X.G ?_|refine X.H ?_|refine X.I ?_|fail)
        have hva5 := hL.rows.own.outB hL.var (by decide)
        have hlow := hL.b45
        have hlow2 := hL.low
        have hsz0 := hL.size0
        have hb5z := hL.b5lt
        have hvl : vs.length = m := by rw [hL.rows.len, hG.len]
        obtain ⟨av, cv, hva, _⟩ := hL.rows.own.shape
        refine WP.drawn (fun w' => w9.heap.size ≤ w'.heap.size ∧ ∀ k, k < w9.heap.size → k ≠ sb → va.ownBlock ≠ some k → w'.heap[k]? = w9.heap[k]?) [(0, true), (1, true), (2, true), (3, true), (4, true), (5, false), (6, false), (7, false), (8, true), (1009, false)] (by kernel_rfl) mixed ?_
        intro w6 hs6
        have hz6 := hs6.size
        have hS6 : w9.heap.size ≤ w6.heap.size ∧ ∀ k, k < w9.heap.size → k ≠ sb → va.ownBlock ≠ some k → w6.heap[k]? = w9.heap[k]? := ⟨by omega, fun k _ _ _ => by rw [hs6.heap]⟩
        refine WS.fld rfl rfl (fun w' h => hL.var.keep (h.2 b5 hb5z (by omega) hva5)) hS6 ?_
        intro p1
        repeat' (first|refine X.U rfl ?_|refine X.V rfl ?_|refine X.W rfl ?_|refine X.Y rfl ?_|refine X.Z rfl ?_|refine WS.nil ?_|fail)
        have hL6 := hL.still hs6
        have eM : (((m : Nat) : Int) + 1) = ((m + 1 : Nat) : Int) := by omega
        rw [eM]
        refine WS.call rfl (l01List_any hL6.drew.src (m + 1) (by omega)) ?_
        rintro r7 w7 ⟨⟨ys, hown7, hyl, hya⟩, hd7⟩
        have hL7 := hL6.draw hd7
        have hz7 := hd7.chg.size
        obtain ⟨a7, c7, hv7, _⟩ := hown7.own.shape
        subst hv7
        have hS7 : w9.heap.size ≤ w7.heap.size ∧ ∀ k, k < w9.heap.size → k ≠ sb → va.ownBlock ≠ some k → w7.heap[k]? = w9.heap[k]? := ⟨by omega, fun k hk hks hk2 => by rw [hd7.chg.block k (by omega) (by omega)]; exact hS6.2 k hk hks hk2⟩
        refine ⟨hS7, ?_⟩
        refine WS.op rfl (o_lit (us := [.slice a7 (Ints ys).length c7]) (by rfl) (by rfl) rfl (by decide) (one1 rfl) ?_)
        intro v8 w8 hown8 hbl8 hz8 _
        have hS8 : w9.heap.size ≤ w8.heap.size ∧ ∀ k, k < w9.heap.size → k ≠ sb → va.ownBlock ≠ some k → w8.heap[k]? = w9.heap[k]? := ⟨by omega, fun k hk hks hk2 => by rw [hbl8.block k (by omega)]; exact hS7.2 k hk hks hk2⟩
        refine ⟨hS8, ?_⟩
        refine WS.op rfl (o_appendK (us := vs) (news := [.slice a7 (Ints ys).length c7]) (by rfl) (by rfl) (hL7.rows.own.below hbl8 (Nat.le_refl _)) hown8.src (one1 rfl) (by simp [maxLen]; omega) (by simp; omega) (by omega) (by simp) ?_)
        intro v10 w10 hown10 hg10 hbl10 hk10
        have hz10 := hg10.size
        have hf10 : ∀ k, k < w8.heap.size → va.ownBlock ≠ some k → w10.heap[k]? = w8.heap[k]? := fun k hk hk2 => hg10.block k hk (fun e => hk2 e.symm)
        have hS10 : w9.heap.size ≤ w10.heap.size ∧ ∀ k, k < w9.heap.size → k ≠ sb → va.ownBlock ≠ some k → w10.heap[k]? = w9.heap[k]? := ⟨by omega, fun k hk hks hk2 => by rw [hf10 k (by omega) hk2]; exact hS8.2 k hk hks hk2⟩
        refine ⟨hS10, ?_⟩
        obtain ⟨a10, c10, hv10, _⟩ := hown10.shape
        subst hv10
        refine WS.fldst rfl rfl (hL.var.keep (hS10.2 b5 hb5z (by omega) hva5)) hS10 ?_
        intro p11 w11 hb11 hbut11
        have hr8 := hown7.own.below hbl8 (Nat.le_refl _)
        have hL11 := hL6.addRow (hd7.chg.trans (Chg.of_below hbl8).none) (hL7.drew.thenBelow (Below.mono hbl8 (by omega)) (by omega)) (ys := ys) ⟨hr8, fun k hk => (hr8.block k hk).2, Nat.le_refl _⟩ hown10 hbl10 hf10 hb11 hbut11
        refine WS.nil ?_
        repeat' (first|refine X.O ?_|refine X.A ?_|refine X.B ?_|refine X.C ?_|refine X.D ?_|refine X.E ?_|refine X.F ?_|refine X.G ?_|refine X.H ?_|refine X.I ?_|fail)
        have hL := hL11
        have hyl' := hG.last.1
        refine WL.fld hL.var ?_
        intro p1
        repeat' (first|refine X.O ?_|refine X.A ?_|refine X.B ?_|refine X.C ?_|refine X.D ?_|refine X.E ?_|refine X.F ?_|refine X.G ?_|refine X.H ?_|refine X.I ?_|fail)
        refine o_append1K (u := .int .i64 0) (fun _ => by rfl) (by rfl) hL.last.own rfl (by rw [Ints_length]; dsimp only; unfold maxLen; omega) (by rw [Ints_length]; dsimp only; omega) (by have := hL.b5lt; have := hL.b45; omega) ?_
        intro p2 v6 w6 hown6 hbl6 hf6 hz6 hk6
        obtain ⟨a6, c6, hv6, _⟩ := hown6.shape
        subst hv6
        refine WL.fldst (hL.var.keep (hf6 b5 hL.b5lt (hL.last.own.outB hL.var (by decide)))) ?_
        intro p3 w7 hb7 hbut7
        have hL7 := hL.putLast (ys := y.2 ++ [0]) (by rw [Ints_append]; exact hown6) hbl6 hf6 hk6 hb7 hbut7
        clear hown6 hbl6 hf6 hz6 hk6 hb7 hbut7 hL
        repeat' (first|refine X.O ?_|refine X.A ?_|refine X.B ?_|refine X.C ?_|refine X.D ?_|refine X.E ?_|refine X.F ?_|refine X.G ?_|refine X.H ?_|refine X.I ?_|fail)
        exact ⟨n - 1, ⟨rfl, rfl, rfl, X.T (by omega), trivial⟩, ⟨by omega, _, _, _, _, hL7, hG.tab h7 hyl hya (by simp; omega) (allN_snoc hG.last.2 (by simp [isN]))⟩, by omega⟩
    --ENDBODY
  · rintro l5 w5 ⟨hag, va, vb, vs, x, hL, tX⟩
    refine WP.frame _ hag ?_
    clear hag
    repeat' (first|refine X.O ?_|refine X.A ?_|refine X.B ?_|refine X.C ?_|refine X.D ?_|refine X.E ?_|refine X.F ?_|refine X.G ?_|refine X.H ?_|refine X.I ?_|fail)
    refine WL.call (l01Next_any hL.drew.src 3 (by omega)) ?_
    rintro _ w6 ⟨⟨c, rfl, _, _⟩, hd6⟩
    replace hL := hL.draw hd6
    clear hd6
    repeat' (first|refine X.O ?_|refine X.A ?_|refine X.B ?_|refine X.C ?_|refine X.D ?_|refine X.E ?_|refine X.F ?_|refine X.G ?_|refine X.H ?_|refine X.I ?_|fail)
    refine WP.mid (fun l' y => Agree l' [(0, .pointer (some ⟨sb, 0, none⟩)), (2, .pointer (some ⟨b4, 0, none⟩)), (3, .pointer (some ⟨b5, 0, none⟩))] ∧ ∃ va vb vs x, LT sb b4 b5 w y va vb vs x ∧ Tab x) ?_ ?_
    · first|refine X.J (fun _ => ?_) (fun _ => ?_)|refine X.L (fun _ => ?_) (fun _ => ?_)|refine X.M (fun _ => ?_) (fun _ => ?_)|refine X.R (fun _ => ?_) (fun _ => ?_)|fail
      · have hb5z := hL.b5lt
        have hlow := hL.b45
        obtain ⟨ab, cb, hvb, _⟩ := hL.last.own.shape
        rw [Ints_length] at hvb
        have h8 := tX.le8
        have hp := tX.pos
        subst hvb
        refine WP.drawn (fun w' => Below w6.heap.size w6 w') [(0, true), (1, true), (2, true), (3, true), (4, false), (5, false), (1006, false)] (by kernel_rfl) mixed ?_
        intro w7 hs7
        have hS7 : Below w6.heap.size w6 w7 := hs7.below _
        refine WS.q rfl (q_loadS (by rfl) (fun w' h => hL.var.below h hb5z) (by rfl)) hS7 ?_
        refine WS.fld rfl rfl (fun w' h => hL.var.below h hb5z) hS7 ?_
        intro p1
        repeat' (first|refine X.U rfl ?_|refine X.V rfl ?_|refine X.W rfl ?_|refine X.Y rfl ?_|refine X.Z rfl ?_|refine WS.nil ?_|fail)
        refine WS.call rfl (l10Backwards_any x.2.length tX.le8 _) ?_
        rintro v8 w8 ⟨o, ⟨ho8, hbl8⟩, hok, hlen⟩
        have hz7 := hS7.size
        have hz8 := hbl8.size
        have hS8 : Below w6.heap.size w6 w8 := hS7.trans (Below.mono hbl8 (by omega))
        refine ⟨hS8, ?_⟩
        have hL8 := hL.below hS8
        refine WS.call rfl (l10Permute_any ⟨_, _, rfl, hL8.rows.rd, hL8.last.rd⟩ (ho8.toIS (Nat.le_refl _)) tX hok (by omega)) ?_
        rintro v9 w9 ⟨hT9, hc9⟩
        have hS9 : Below w6.heap.size w6 w9 := hS8.trans (hc9.below (by omega) (Or.inr (Nat.le_refl _)))
        refine ⟨hS9, ?_⟩
        have hL9 := hL.below hS9
        obtain ⟨vA, vB, vs9, rfl, hO9⟩ := hT9
        obtain ⟨aA, cA, hvA, _⟩ := hO9.rows.own.shape
        obtain ⟨aB, cB, hvB, _⟩ := hO9.last.own.shape
        subst hvA hvB
        refine WS.last rfl (o_storeS (vs := [.slice aA vs9.length cA, .slice aB (Ints (permL x o).2).length cB]) (by rfl) (by rfl) hL9.var (by rfl) (by rfl) two_cells ?_)
        intro w10 hb10 hbut10
        refine WS.nil ?_
        obtain ⟨vs', hL10⟩ := hL9.put (lo := w8.heap.size) (by omega) ⟨_, _, _, rfl, hO9⟩ hb10 hbut10
        repeat' (first|refine X.O ?_|refine X.A ?_|refine X.B ?_|refine X.C ?_|refine X.D ?_|refine X.E ?_|refine X.F ?_|refine X.G ?_|refine X.H ?_|refine X.I ?_|fail)
        exact ⟨⟨rfl, rfl, rfl, trivial⟩, _, _, _, _, hL10, permL_tab tX hok (fun e => by rw [e] at hlen; simp at hlen; omega) (by omega)⟩
      · repeat' (first|refine X.O ?_|refine X.A ?_|refine X.B ?_|refine X.C ?_|refine X.D ?_|refine X.E ?_|refine X.F ?_|refine X.G ?_|refine X.H ?_|refine X.I ?_|fail)
        exact ⟨⟨rfl, rfl, rfl, trivial⟩, _, _, _, _, hL, tX⟩
    clear hL tX
    rintro l5 w5 ⟨hag, va, vb, vs, x, hL, tX⟩
    refine WP.frame _ hag ?_
    clear hag
    repeat' (first|refine X.O ?_|refine X.A ?_|refine X.B ?_|refine X.C ?_|refine X.D ?_|refine X.E ?_|refine X.F ?_|refine X.G ?_|refine X.H ?_|refine X.I ?_|fail)
    refine WL.call (l01Next_any hL.drew.src 40 (by omega)) ?_
    rintro _ w6 ⟨⟨c, rfl, _, _⟩, hd6⟩
    replace hL := hL.draw hd6
    clear hd6
    have h8 := tX.le8
    have hp := tX.pos
    refine WL.nil ?_
    refine thenN ?_
    refine WP.mid (fun l' y => Agree l' [(2, .pointer (some ⟨b4, 0, none⟩)), (3, .pointer (some ⟨b5, 0, none⟩))] ∧ ∃ va vb vs x, LT sb b4 b5 w y va vb vs x) ?_ ?_
    · repeat' (first|refine X.O ?_|refine X.A ?_|refine X.B ?_|refine X.C ?_|refine X.D ?_|refine X.E ?_|refine X.F ?_|refine X.G ?_|refine X.H ?_|refine X.I ?_|fail)
      first|refine X.J (fun _ => ?_) (fun _ => ?_)|refine X.L (fun _ => ?_) (fun _ => ?_)|refine X.M (fun _ => ?_) (fun _ => ?_)|refine X.R (fun _ => ?_) (fun _ => ?_)|fail
      · repeat' (first|refine X.O ?_|refine X.A ?_|refine X.B ?_|refine X.C ?_|refine X.D ?_|refine X.E ?_|refine X.F ?_|refine X.G ?_|refine X.H ?_|refine X.I ?_|fail)
        refine WL.fld hL.var ?_
        intro p1
        repeat' (first|refine X.O ?_|refine X.A ?_|refine X.B ?_|refine X.C ?_|refine X.D ?_|refine X.E ?_|refine X.F ?_|refine X.G ?_|refine X.H ?_|refine X.I ?_|fail)
        refine o_append1K (u := .int .i64 1) (fun _ => by rfl) (by rfl) hL.last.own rfl (by rw [Ints_length]; unfold maxLen; omega) (by rw [Ints_length]; omega) (by have := hL.b5lt; have := hL.b45; omega) ?_
        intro p2 v6 w6 hown6 hbl6 hf6 hz6 hk6
        obtain ⟨a6, c6, hv6, _⟩ := hown6.shape
        subst hv6
        refine WL.fldst (hL.var.keep (hf6 b5 hL.b5lt (hL.last.own.outB hL.var (by decide)))) ?_
        intro p3 w7 hb7 hbut7
        have hL7 := hL.putLast (ys := x.2 ++ [1]) (by rw [Ints_append]; exact hown6) hbl6 hf6 hk6 hb7 hbut7
        repeat' (first|refine X.O ?_|refine X.A ?_|refine X.B ?_|refine X.C ?_|refine X.D ?_|refine X.E ?_|refine X.F ?_|refine X.G ?_|refine X.H ?_|refine X.I ?_|fail)
        exact ⟨⟨rfl, rfl, trivial⟩, _, _, _, _, hL7⟩
      repeat' (first|refine X.O ?_|refine X.A ?_|refine X.B ?_|refine X.C ?_|refine X.D ?_|refine X.E ?_|refine X.F ?_|refine X.G ?_|refine X.H ?_|refine X.I ?_|fail)
      first|refine X.J (fun _ => ?_) (fun _ => ?_)|refine X.L (fun _ => ?_) (fun _ => ?_)|refine X.M (fun _ => ?_) (fun _ => ?_)|refine X.R (fun _ => ?_) (fun _ => ?_)|fail
      · have hjx : 0 < x.1.length := by rw [tX.sq]; omega
        have hjv : 0 < vs.length := by rw [hL.rows.len]; exact hjx
        obtain ⟨u, hu⟩ : ∃ u, vs[0] = u := ⟨_, rfl⟩
        have hu0 : vs[0]? = some u := by rw [List.getElem?_eq_getElem hjv, hu]
        obtain ⟨ys, hys⟩ : ∃ ys, x.1[0] = ys := ⟨_, rfl⟩
        have hx0 : x.1[0]? = some ys := by rw [List.getElem?_eq_getElem hjx, hys]
        have hyl : ys.length = x.2.length := by rw [← hys]; exact (tX.row _ (List.getElem_mem hjx)).1
        have hrow := hL.rows.rows 0 u ys hu0 hx0
        have rowSL : SL (fun _ _ _ u x => u = x) (b4 + 1) w6.heap.size w6 va vs := hL.rows.own.toSL rfl (Nat.le_refl _) (fun k hk => (hL.rows.own.block k hk).2) (Nat.le_refl _) (fun i u x hu hx => by rw [hu] at hx; simpa using hx)
        repeat' (first|refine X.O ?_|refine X.A ?_|refine X.B ?_|refine X.C ?_|refine X.D ?_|refine X.E ?_|refine X.F ?_|refine X.G ?_|refine X.H ?_|refine X.I ?_|fail)
        refine WL.fld hL.var ?_
        intro p1
        refine WL.ixload (j := 0) rowSL hu0 ?_
        intro p2 u' hu'
        rw [show u' = u from hu']
        clear hu' u'
        refine WL.ixstore (j := 0) hrow.own (by rw [Ints_length]; omega) ?_
        intro p3 w8 hown8 hbl8 hz8 hf8
        have hL8 := hL.setRow (zs := ys.set 0 10007) hu0 hx0 (by rw [← Ints_set]; exact hown8) hbl8 hz8 hf8
        repeat' (first|refine X.O ?_|refine X.A ?_|refine X.B ?_|refine X.C ?_|refine X.D ?_|refine X.E ?_|refine X.F ?_|refine X.G ?_|refine X.H ?_|refine X.I ?_|fail)
        exact ⟨⟨rfl, rfl, trivial⟩, _, _, _, _, hL8⟩
      repeat' (first|refine X.O ?_|refine X.A ?_|refine X.B ?_|refine X.C ?_|refine X.D ?_|refine X.E ?_|refine X.F ?_|refine X.G ?_|refine X.H ?_|refine X.I ?_|fail)
      first|refine X.J (fun _ => ?_) (fun _ => ?_)|refine X.L (fun _ => ?_) (fun _ => ?_)|refine X.M (fun _ => ?_) (fun _ => ?_)|refine X.R (fun _ => ?_) (fun _ => ?_)|fail
      · obtain ⟨ab, cb, hvb, _⟩ := hL.last.own.shape
        rw [Ints_length] at hvb
        subst hvb
        have hlow := hL.b45
        have hb5z := hL.b5lt
        repeat' (first|refine X.O ?_|refine X.A ?_|refine X.B ?_|refine X.C ?_|refine X.D ?_|refine X.E ?_|refine X.F ?_|refine X.G ?_|refine X.H ?_|refine X.I ?_|fail)
        refine WL.fld hL.var ?_
        intro p1
        repeat' (first|refine X.O ?_|refine X.A ?_|refine X.B ?_|refine X.C ?_|refine X.D ?_|refine X.E ?_|refine X.F ?_|refine X.G ?_|refine X.H ?_|refine X.I ?_|fail)
        refine WL.step (o_make (n := x.2.length) (by rfl) (by rfl) (by omega) (by unfold maxLen; omega) ?_)
        intro v7 w7 hown7 hbl7 hz7
        obtain ⟨a7, c7, hv7, _⟩ := hown7.shape
        subst hv7
        have hL7 := hL.below hbl7
        refine WL.fldst hL7.var ?_
        intro p3 w8 hb8 hbut8
        have hL8 := hL.putLast (ys := List.replicate x.2.length 0) (by rw [show Ints (List.replicate x.2.length 0) = List.replicate x.2.length (.int .i64 0) by simp [Ints]]; exact hown7.lower (by omega)) (Below.mono hbl7 (by omega)) (fun k hk _ => hbl7.block k hk) (fun k hk => Or.inr (hown7.block k hk).1) hb8 hbut8
        repeat' (first|refine X.O ?_|refine X.A ?_|refine X.B ?_|refine X.C ?_|refine X.D ?_|refine X.E ?_|refine X.F ?_|refine X.G ?_|refine X.H ?_|refine X.I ?_|fail)
        exact ⟨⟨rfl, rfl, trivial⟩, _, _, _, _, hL8⟩
      · repeat' (first|refine X.O ?_|refine X.A ?_|refine X.B ?_|refine X.C ?_|refine X.D ?_|refine X.E ?_|refine X.F ?_|refine X.G ?_|refine X.H ?_|refine X.I ?_|fail)
        exact ⟨⟨rfl, rfl, trivial⟩, _, _, _, _, hL⟩
    clear hL tX hp h8
    rintro l5 w5 ⟨hag, va, vb, vs, x, hL⟩
    refine WP.frame _ hag ?_
    clear hag
    obtain ⟨a1, c1, hv1, _⟩ := hL.rows.own.shape
    obtain ⟨a2, c2, hv2, _⟩ := hL.last.own.shape
    subst hv1 hv2
    have hlow := hL.b45
    have hlow2 := hL.low
    have hb5z := hL.b5lt
    repeat' (first|refine X.O ?_|refine X.A ?_|refine X.B ?_|refine X.C ?_|refine X.D ?_|refine X.E ?_|refine X.F ?_|refine X.G ?_|refine X.H ?_|refine X.I ?_|fail)
    refine WL.step (o_loadS (by rfl) hL.var (by rfl) ?_)
    refine WL.step (o_storeS (vs := [.slice a1 vs.length c1, .slice a2 (Ints x.2).length c2]) (by rfl) (by rfl) hL.res (by rfl) (by rfl) two_cells ?_)
    intro w6 hb6 hbut6
    have hz6 := hbut6.size
    repeat' (first|refine X.O ?_|refine X.A ?_|refine X.B ?_|refine X.C ?_|refine X.D ?_|refine X.E ?_|refine X.F ?_|refine X.G ?_|refine X.H ?_|refine X.I ?_|fail)
    refine ⟨_, retS rfl (by rfl) hb6 (by rfl), ⟨x, _, _, rfl, ?_, ?_⟩, hL.drew.thenBut hbut6 hlow2 (by omega)⟩
    · exact SL.wide IS.stable (SL.chg IS.stable hL.rows.rd hbut6.chg (by omega)) (by omega) (by omega) (Nat.le_refl _)
    · exact SL.wide RI.stable (SL.chg RI.stable hL.last.rd hbut6.chg (by omega)) (by omega) (by omega) (Nat.le_refl _)
end Go.Proofs
