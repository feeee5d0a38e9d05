/- The texts of rows and of tableaus, walked. -/
import Derived.Test.YthepgmajeljdhaaGreatDoorZ3
import Derived.Test.YthepgmajeljdhaaGreatDoorA3
import Derived.Test.YthepgmajeljdhaaGreatDoorT1
set_option maxRecDepth 8000
namespace Go.Rk
open Go.Fw Go.Proofs
/-- The text of a tableau, and a code. -/
def tableauText (x : TabD) : List UInt8 × Int := if isTab x = true then (tabText x, 0) else ([], 1)
theorem take_text {α : Type} (f : α → List UInt8) {xs : List α} {i : Nat} (h : i < xs.length) : (xs.take (i + 1)).map f = (xs.take i).map f ++ [f xs[i]] := by
  rw [List.take_succ_eq_append_getElem h, List.map_append]; rfl
theorem lineL_eq (xs : List Int) : lineL xs = Lib.join (xs.map numText) [32] := by unfold lineL; rfl
theorem tabText_eq (x : TabD) : tabText x = Lib.join (x.1.map lineL) [59] ++ [124] ++ lineL x.2 := by unfold tabText; rfl
theorem join_take_length {xs : List Int} (h : allN xs = true) (hn : xs.length ≤ 1000) (i : Nat) : (Lib.join ((xs.take i).map numText) [32]).length ≤ 44000 := by
  rw [← lineL_eq]
  have h2 : allN (xs.take i) = true := by
    unfold allN at h ⊢
    exact List.all_eq_true.2 fun a ha => List.all_eq_true.1 h a (List.mem_of_mem_take ha)
  have := lineL_length h2
  have h3 : (xs.take i).length ≤ xs.length := by rw [List.length_take]; omega
  omega
theorem rows_take_length {x : TabD} (hx : Tab x) (i : Nat) : (Lib.join ((x.1.take i).map lineL) [59]).length ≤ 10000 := by
  have h1 := join_length (sep := [59]) (B := 352) (xs := (x.1.take i).map lineL) fun t ht => by
    obtain ⟨r, hr, rfl⟩ := List.mem_map.1 ht
    have hr := List.mem_of_mem_take hr
    have := lineL_length (hx.row r hr).2
    have := (hx.row r hr).1
    have := hx.le8
    omega
  have h3 := hx.sq
  have h8 := hx.le8
  simp only [List.length_map, List.length_singleton, List.length_take] at h1
  omega
end Go.Rk
namespace Go.Proofs
open Go Go.Fw Go.RowKit Go.Rk
theorem l09Line_any {lo hi : Nat} {w : World} {v : Value} {xs : List Int} (h : IS lo hi w v xs) (ha : allN xs = true) (hn : xs.length ≤ 1000) : Does Tryz.prog 58 [v] w fun r w' => r = St (lineL xs) ∧ Below w.heap.size w w' := by
  have hhl := h.hi_le
  obtain ⟨av, cv, hv⟩ := h.shape
  subst hv
  refine Does.enter Tryz.func58 Tryz.ntmps58 rfl (by rfl) ?_
  repeat' (first|refine X.O ?_|refine X.A ?_|refine X.B ?_|refine X.C ?_|refine X.D ?_|refine X.E ?_|refine X.F ?_|refine X.G ?_|refine X.H ?_|refine X.I ?_|fail)
  refine WP.loop (fun (i : Nat) => [(0, .slice av xs.length cv), (3, St (Lib.join ((xs.take i).map numText) [32])), (4, .int .i64 (i : Nat))])
    (fun i y => i ≤ xs.length ∧ Below w.heap.size w y) (fun i => xs.length - i) 0 ⟨rfl, rfl, rfl, trivial⟩ ⟨by omega, Below.refl _ _⟩ ?_
  rintro i w1 ⟨hi1, hb1⟩
  have hz1 := hb1.size
  have h1 := h.below RI.stable hb1 hhl
  have hlen := join_take_length ha hn i
  repeat' (first|refine X.O ?_|refine X.A ?_|refine X.B ?_|refine X.C ?_|refine X.D ?_|refine X.E ?_|refine X.F ?_|refine X.G ?_|refine X.H ?_|refine X.I ?_|fail)
  first|refine X.J (fun _ => ?_) (fun _ => ?_)|refine X.L (fun _ => ?_) (fun _ => ?_)|refine X.M (fun _ => ?_) (fun _ => ?_)|refine X.R (fun _ => ?_) (fun _ => ?_)|fail
  · rename_i hlt
    have hli : i < xs.length := by omega
    have hai : isN xs[i] = true := by unfold allN at ha; exact List.all_eq_true.1 ha _ (List.getElem_mem hli)
    have htl := numText_length hai
    have htk := take_text numText hli
    have hjs := join_snoc ((xs.take i).map numText) (numText xs[i]) [32]
    rw [← htk] at hjs
    obtain ⟨T, hT⟩ : ∃ T, Lib.join ((xs.take i).map numText) [32] = T := ⟨_, rfl⟩
    obtain ⟨T', hT'⟩ : ∃ T', Lib.join ((xs.take (i + 1)).map numText) [32] = T' := ⟨_, rfl⟩
    rw [hT, hT'] at hjs
    rw [hT] at hlen ⊢
    repeat' (first|refine X.O ?_|refine X.A ?_|refine X.B ?_|refine X.C ?_|refine X.D ?_|refine X.E ?_|refine X.F ?_|refine X.G ?_|refine X.H ?_|refine X.I ?_|fail)
    first|refine X.J (fun _ => ?_) (fun _ => ?_)|refine X.L (fun _ => ?_) (fun _ => ?_)|refine X.M (fun _ => ?_) (fun _ => ?_)|refine X.R (fun _ => ?_) (fun _ => ?_)|fail
    · rename_i hi0
      rw [if_neg (by intro e; have := congrArg List.length e; rw [List.length_map, List.length_take, List.length_nil] at this; omega)] at hjs
      repeat' (first|refine X.O ?_|refine X.A ?_|refine X.B ?_|refine X.C ?_|refine X.D ?_|refine X.E ?_|refine X.F ?_|refine X.G ?_|refine X.H ?_|refine X.I ?_|fail)
      refine WL.step (o_cat (a := T) (b := [32]) (by rfl) (by rfl) (by simp; omega) ?_)
      repeat' (first|refine X.O ?_|refine X.A ?_|refine X.B ?_|refine X.C ?_|refine X.D ?_|refine X.E ?_|refine X.F ?_|refine X.G ?_|refine X.H ?_|refine X.I ?_|fail)
      refine WL.ixload (j := i) h1 (List.getElem?_eq_getElem hli) ?_
      intro p1 u1 hu1
      rw [show u1 = .int .i64 xs[i] from hu1]
      clear hu1 u1
      refine WL.call (l01Text_any xs[i] hai _) ?_
      rintro _ w2 ⟨rfl, hb2⟩
      refine WL.step (o_cat (a := T ++ [32]) (by rfl) (by rfl) (by simp; omega) ?_)
      rw [← hjs]
      repeat' (first|refine X.O ?_|refine X.A ?_|refine X.B ?_|refine X.C ?_|refine X.D ?_|refine X.E ?_|refine X.F ?_|refine X.G ?_|refine X.H ?_|refine X.I ?_|fail)
      exact ⟨i + 1, ⟨rfl, by rw [hT']; rfl, X.T (by omega), trivial⟩, ⟨by omega, hb1.trans (Below.mono hb2 hz1)⟩, by omega⟩
    · rename_i hi0
      have hi00 : i = 0 := by omega
      subst hi00
      rw [if_pos (by simp)] at hjs
      have hT0 : T = [] := by rw [← hT]; simp [Lib.join_nil]
      subst hT0
      repeat' (first|refine X.O ?_|refine X.A ?_|refine X.B ?_|refine X.C ?_|refine X.D ?_|refine X.E ?_|refine X.F ?_|refine X.G ?_|refine X.H ?_|refine X.I ?_|fail)
      refine WL.ixload (j := 0) h1 (List.getElem?_eq_getElem hli) ?_
      intro p1 u1 hu1
      rw [show u1 = .int .i64 xs[0] from hu1]
      clear hu1 u1
      refine WL.call (l01Text_any xs[0] hai _) ?_
      rintro _ w2 ⟨rfl, hb2⟩
      refine WL.step (o_cat (a := []) (by rfl) (by rfl) (by simp; omega) ?_)
      rw [List.nil_append, ← hjs]
      repeat' (first|refine X.O ?_|refine X.A ?_|refine X.B ?_|refine X.C ?_|refine X.D ?_|refine X.E ?_|refine X.F ?_|refine X.G ?_|refine X.H ?_|refine X.I ?_|fail)
      exact ⟨0 + 1, ⟨rfl, by rw [hT']; rfl, X.T (by omega), trivial⟩, ⟨by omega, hb1.trans (Below.mono hb2 hz1)⟩, by omega⟩
  · rename_i hge
    have e : xs.take i = xs := List.take_of_length_le (by omega)
    repeat' (first|refine X.O ?_|refine X.A ?_|refine X.B ?_|refine X.C ?_|refine X.D ?_|refine X.E ?_|refine X.F ?_|refine X.G ?_|refine X.H ?_|refine X.I ?_|fail)
    refine ⟨_, ret1 rfl (by rfl), ?_⟩
    exact ⟨by rw [e, lineL_eq], hb1⟩
theorem numbersText_any {lo hi : Nat} {w : World} {v : Value} {xs : List Int} (h : IS lo hi w v xs) (ha : allN xs = true) (hn : xs.length ≤ 1000) (hT : T10 w) : Does Tryz.prog 55 [v] w fun r w' => r = St (lineL xs) ∧ Below w.heap.size w w' := by
  have hhl := h.hi_le
  obtain ⟨av, cv, hv⟩ := h.shape
  subst hv
  refine Does.enter Tryz.func55 Tryz.ntmps55 rfl (by rfl) ?_
  repeat' (first|refine X.O ?_|refine X.A ?_|refine X.B ?_|refine X.C ?_|refine X.D ?_|refine X.E ?_|refine X.F ?_|refine X.G ?_|refine X.H ?_|refine X.I ?_|fail)
  refine WL.step (o_lit (us := []) (by rfl) (by rfl) rfl (by decide) one0 ?_)
  intro v1 w1 hown1 hbl1 hz1 _
  repeat' (first|refine X.O ?_|refine X.A ?_|refine X.B ?_|refine X.C ?_|refine X.D ?_|refine X.E ?_|refine X.F ?_|refine X.G ?_|refine X.H ?_|refine X.I ?_|fail)
  refine WP.loop (fun (s : Nat × Value) => [(3, s.2), (7, .slice av xs.length cv), (8, .int .i64 (xs.length : Nat)), (9, .int .i64 (s.1 : Nat))])
    (fun s y => s.1 ≤ xs.length ∧ Fw.Own w.heap.size 9 y s.2 (((xs.take s.1).map numText).map St) ∧ Below w.heap.size w y) (fun s => xs.length - s.1) (0, v1) ⟨rfl, rfl, rfl, rfl, trivial⟩ ⟨by dsimp only; omega, hown1, hbl1⟩ ?_
  clear hown1 hbl1
  rintro ⟨i, vp⟩ w2 ⟨hi1, hown, hb2⟩
  dsimp only at hi1 hown ⊢
  have hz2 := hb2.size
  have h2 := h.below RI.stable hb2 hhl
  repeat' (first|refine X.O ?_|refine X.A ?_|refine X.B ?_|refine X.C ?_|refine X.D ?_|refine X.E ?_|refine X.F ?_|refine X.G ?_|refine X.H ?_|refine X.I ?_|fail)
  first|refine X.J (fun _ => ?_) (fun _ => ?_)|refine X.L (fun _ => ?_) (fun _ => ?_)|refine X.M (fun _ => ?_) (fun _ => ?_)|refine X.R (fun _ => ?_) (fun _ => ?_)|fail
  · rename_i hlt
    have hli : i < xs.length := by omega
    have hai : isN xs[i] = true := by unfold allN at ha; exact List.all_eq_true.1 ha _ (List.getElem_mem hli)
    repeat' (first|refine X.O ?_|refine X.A ?_|refine X.B ?_|refine X.C ?_|refine X.D ?_|refine X.E ?_|refine X.F ?_|refine X.G ?_|refine X.H ?_|refine X.I ?_|fail)
    refine WL.ixload (j := i) h2 (List.getElem?_eq_getElem hli) ?_
    intro p1 u1 hu1
    rw [show u1 = .int .i64 xs[i] from hu1]
    clear hu1 u1
    repeat' (first|refine X.O ?_|refine X.A ?_|refine X.B ?_|refine X.C ?_|refine X.D ?_|refine X.E ?_|refine X.F ?_|refine X.G ?_|refine X.H ?_|refine X.I ?_|fail)
    refine WL.call (numberText_any xs[i] hai (hT.below hb2)) ?_
    rintro _ w3 ⟨rfl, hb3⟩
    have hz3 := hb3.size
    refine o_append1 (u := St (numText xs[i])) (fun _ => by rfl) (by rfl) (hown.below hb3 (Nat.le_refl _)) rfl (by simp [maxLen]; omega) (by simp; omega) (by omega) ?_
    intro p2 v4 w4 hown4 hb4 _ hz4 _
    repeat' (first|refine X.O ?_|refine X.A ?_|refine X.B ?_|refine X.C ?_|refine X.D ?_|refine X.E ?_|refine X.F ?_|refine X.G ?_|refine X.H ?_|refine X.I ?_|fail)
    refine ⟨(i + 1, v4), ⟨rfl, rfl, rfl, X.T (by dsimp only; omega), trivial⟩, ⟨by dsimp only; omega, ?_, (hb2.trans (Below.mono hb3 hz2)).trans hb4⟩, by dsimp only; omega⟩
    dsimp only
    rw [take_text numText hli, List.map_append]
    exact hown4
  · rename_i hge
    have e : xs.take i = xs := List.take_of_length_le (by omega)
    rw [e] at hown
    have hl := lineL_length ha
    rw [lineL_eq] at hl
    repeat' (first|refine X.O ?_|refine X.A ?_|refine X.B ?_|refine X.C ?_|refine X.D ?_|refine X.E ?_|refine X.F ?_|refine X.G ?_|refine X.H ?_|refine X.I ?_|fail)
    refine WL.call (Join_any (xs := xs.map numText) hown [32] (by omega) (by simp; omega)) ?_
    rintro _ w3 ⟨rfl, hb3⟩
    repeat' (first|refine X.O ?_|refine X.A ?_|refine X.B ?_|refine X.C ?_|refine X.D ?_|refine X.E ?_|refine X.F ?_|refine X.G ?_|refine X.H ?_|refine X.I ?_|fail)
    refine ⟨_, ret1 rfl (by rfl), ?_⟩
    exact ⟨by rw [lineL_eq], hb2.trans (Below.mono hb3 hz2)⟩
theorem l09Text_any {lo hi : Nat} {w : World} {v : Value} {x : TabD} (h : IT lo hi w v x) (hx : Tab x) : Does Tryz.prog 28 [v] w fun r w' => r = St (tabText x) ∧ Below w.heap.size w w' := by
  have hhl := h.hi_le
  have h8 := hx.le8
  have hsq := hx.sq
  obtain ⟨va, vb, rfl, hA, hB⟩ := h
  obtain ⟨aa, ca, hva⟩ := hA.shape
  obtain ⟨ab, cb, hvb⟩ := hB.shape
  subst hva hvb
  refine Does.enter Tryz.func28 Tryz.ntmps28 rfl (by rfl) ?_
  repeat' (first|refine X.O ?_|refine X.A ?_|refine X.B ?_|refine X.C ?_|refine X.D ?_|refine X.E ?_|refine X.F ?_|refine X.G ?_|refine X.H ?_|refine X.I ?_|fail)
  refine WL.step (o_box (by rfl) ?_)
  intro w1 hb1 hbl1 hz1
  repeat' (first|refine X.O ?_|refine X.A ?_|refine X.B ?_|refine X.C ?_|refine X.D ?_|refine X.E ?_|refine X.F ?_|refine X.G ?_|refine X.H ?_|refine X.I ?_|fail)
  refine WP.loop (fun (i : Nat) => [(1, .pointer (some ⟨w.heap.size, 0, none⟩)), (3, St (Lib.join ((x.1.take i).map lineL) [59])), (4, .int .i64 (i : Nat))])
    (fun i y => i ≤ x.1.length ∧ Below w1.heap.size w1 y) (fun i => x.1.length - i) 0 ⟨rfl, rfl, rfl, trivial⟩ ⟨by omega, Below.refl _ _⟩ ?_
  rintro i w2 ⟨hi1, hb2⟩
  have hz2 := hb2.size
  have hblk := Blk.below hb1 hb2 (by omega)
  have hbw : Below w.heap.size w w2 := hbl1.trans (Below.mono hb2 (by omega))
  have hA2 := hA.below IS.stable hbw hhl
  have hB2 := hB.below RI.stable hbw hhl
  have hlen := rows_take_length hx i
  repeat' (first|refine X.O ?_|refine X.A ?_|refine X.B ?_|refine X.C ?_|refine X.D ?_|refine X.E ?_|refine X.F ?_|refine X.G ?_|refine X.H ?_|refine X.I ?_|fail)
  refine WL.fld hblk ?_
  intro p0
  repeat' (first|refine X.O ?_|refine X.A ?_|refine X.B ?_|refine X.C ?_|refine X.D ?_|refine X.E ?_|refine X.F ?_|refine X.G ?_|refine X.H ?_|refine X.I ?_|fail)
  first|refine X.J (fun _ => ?_) (fun _ => ?_)|refine X.L (fun _ => ?_) (fun _ => ?_)|refine X.M (fun _ => ?_) (fun _ => ?_)|refine X.R (fun _ => ?_) (fun _ => ?_)|fail
  · rename_i hlt
    have hli : i < x.1.length := by omega
    have hrow := hx.row _ (List.getElem_mem hli)
    have htl := lineL_length hrow.2
    have htk := take_text lineL hli
    have hjs := join_snoc ((x.1.take i).map lineL) (lineL x.1[i]) [59]
    rw [← htk] at hjs
    obtain ⟨T, hT⟩ : ∃ T, Lib.join ((x.1.take i).map lineL) [59] = T := ⟨_, rfl⟩
    obtain ⟨T', hT'⟩ : ∃ T', Lib.join ((x.1.take (i + 1)).map lineL) [59] = T' := ⟨_, rfl⟩
    rw [hT, hT'] at hjs
    rw [hT] at hlen ⊢
    repeat' (first|refine X.O ?_|refine X.A ?_|refine X.B ?_|refine X.C ?_|refine X.D ?_|refine X.E ?_|refine X.F ?_|refine X.G ?_|refine X.H ?_|refine X.I ?_|fail)
    first|refine X.J (fun _ => ?_) (fun _ => ?_)|refine X.L (fun _ => ?_) (fun _ => ?_)|refine X.M (fun _ => ?_) (fun _ => ?_)|refine X.R (fun _ => ?_) (fun _ => ?_)|fail
    · rename_i hi0
      rw [if_neg (by intro e; have := congrArg List.length e; rw [List.length_map, List.length_take, List.length_nil] at this; omega)] at hjs
      repeat' (first|refine X.O ?_|refine X.A ?_|refine X.B ?_|refine X.C ?_|refine X.D ?_|refine X.E ?_|refine X.F ?_|refine X.G ?_|refine X.H ?_|refine X.I ?_|fail)
      refine WL.step (o_cat (a := T) (b := [59]) (by rfl) (by rfl) (by simp; omega) ?_)
      repeat' (first|refine X.O ?_|refine X.A ?_|refine X.B ?_|refine X.C ?_|refine X.D ?_|refine X.E ?_|refine X.F ?_|refine X.G ?_|refine X.H ?_|refine X.I ?_|fail)
      refine WL.fld hblk ?_
      intro p1
      repeat' (first|refine X.O ?_|refine X.A ?_|refine X.B ?_|refine X.C ?_|refine X.D ?_|refine X.E ?_|refine X.F ?_|refine X.G ?_|refine X.H ?_|refine X.I ?_|fail)
      refine WL.ixload (j := i) hA2 (List.getElem?_eq_getElem hli) ?_
      intro p2 u1 hu1
      refine WL.call (l09Line_any hu1 hrow.2 (by omega)) ?_
      rintro _ w3 ⟨rfl, hb3⟩
      refine WL.step (o_cat (a := T ++ [59]) (by rfl) (by rfl) (by simp; omega) ?_)
      rw [← hjs]
      repeat' (first|refine X.O ?_|refine X.A ?_|refine X.B ?_|refine X.C ?_|refine X.D ?_|refine X.E ?_|refine X.F ?_|refine X.G ?_|refine X.H ?_|refine X.I ?_|fail)
      exact ⟨i + 1, ⟨rfl, by rw [hT']; rfl, X.T (by omega), trivial⟩, ⟨by omega, hb2.trans (Below.mono hb3 hz2)⟩, by omega⟩
    · rename_i hi0
      have hi00 : i = 0 := by omega
      subst hi00
      rw [if_pos (by simp)] at hjs
      have hT0 : T = [] := by rw [← hT]; simp [Lib.join_nil]
      subst hT0
      repeat' (first|refine X.O ?_|refine X.A ?_|refine X.B ?_|refine X.C ?_|refine X.D ?_|refine X.E ?_|refine X.F ?_|refine X.G ?_|refine X.H ?_|refine X.I ?_|fail)
      refine WL.fld hblk ?_
      intro p1
      repeat' (first|refine X.O ?_|refine X.A ?_|refine X.B ?_|refine X.C ?_|refine X.D ?_|refine X.E ?_|refine X.F ?_|refine X.G ?_|refine X.H ?_|refine X.I ?_|fail)
      refine WL.ixload (j := 0) hA2 (List.getElem?_eq_getElem hli) ?_
      intro p2 u1 hu1
      refine WL.call (l09Line_any hu1 hrow.2 (by omega)) ?_
      rintro _ w3 ⟨rfl, hb3⟩
      refine WL.step (o_cat (a := []) (by rfl) (by rfl) (by simp; omega) ?_)
      rw [List.nil_append, ← hjs]
      repeat' (first|refine X.O ?_|refine X.A ?_|refine X.B ?_|refine X.C ?_|refine X.D ?_|refine X.E ?_|refine X.F ?_|refine X.G ?_|refine X.H ?_|refine X.I ?_|fail)
      exact ⟨0 + 1, ⟨rfl, by rw [hT']; rfl, X.T (by omega), trivial⟩, ⟨by omega, hb2.trans (Below.mono hb3 hz2)⟩, by omega⟩
  · rename_i hge
    have e : x.1.take i = x.1 := List.take_of_length_le (by omega)
    rw [e] at hlen ⊢
    have hll := lineL_length hx.last
    have hte := tabText_eq x
    obtain ⟨T, hT⟩ : ∃ T, Lib.join (x.1.map lineL) [59] = T := ⟨_, rfl⟩
    rw [hT] at hlen hte ⊢
    repeat' (first|refine X.O ?_|refine X.A ?_|refine X.B ?_|refine X.C ?_|refine X.D ?_|refine X.E ?_|refine X.F ?_|refine X.G ?_|refine X.H ?_|refine X.I ?_|fail)
    refine WL.step (o_cat (a := T) (b := [124]) (by rfl) (by rfl) (by simp; omega) ?_)
    refine WL.fld hblk ?_
    intro p3
    refine WL.call (l09Line_any hB2 hx.last (by omega)) ?_
    rintro _ w3 ⟨rfl, hb3⟩
    refine WL.step (o_cat (a := T ++ [124]) (by rfl) (by rfl) (by simp; omega) ?_)
    repeat' (first|refine X.O ?_|refine X.A ?_|refine X.B ?_|refine X.C ?_|refine X.D ?_|refine X.E ?_|refine X.F ?_|refine X.G ?_|refine X.H ?_|refine X.I ?_|fail)
    refine ⟨_, ret1 rfl (by rfl), ?_⟩
    exact ⟨by rw [hte], hbw.trans (Below.mono hb3 (by omega))⟩
theorem tableauText_any {lo hi : Nat} {w : World} {v : Value} {x : TabD} (h : IT lo hi w v x) (hx : Tab x) (hT10 : T10 w) : Does Tryz.prog 26 [v] w fun r w' => r = St (tabText x) ∧ Below w.heap.size w w' := by
  have hhl := h.hi_le
  have h8 := hx.le8
  have hsq := hx.sq
  obtain ⟨va, vb, rfl, hA, hB⟩ := h
  obtain ⟨aa, ca, hva⟩ := hA.shape
  obtain ⟨ab, cb, hvb⟩ := hB.shape
  subst hva hvb
  refine Does.enter Tryz.func26 Tryz.ntmps26 rfl (by rfl) ?_
  repeat' (first|refine X.O ?_|refine X.A ?_|refine X.B ?_|refine X.C ?_|refine X.D ?_|refine X.E ?_|refine X.F ?_|refine X.G ?_|refine X.H ?_|refine X.I ?_|fail)
  refine WL.step (o_box (by rfl) ?_)
  intro w1 hb1 hbl1 hz1
  repeat' (first|refine X.O ?_|refine X.A ?_|refine X.B ?_|refine X.C ?_|refine X.D ?_|refine X.E ?_|refine X.F ?_|refine X.G ?_|refine X.H ?_|refine X.I ?_|fail)
  refine WL.step (o_lit (us := []) (by rfl) (by rfl) rfl (by decide) one0 ?_)
  intro v2 w2 hown2 hbl2 hz2 _
  have hblk2 := Blk.below hb1 hbl2 (by omega)
  repeat' (first|refine X.O ?_|refine X.A ?_|refine X.B ?_|refine X.C ?_|refine X.D ?_|refine X.E ?_|refine X.F ?_|refine X.G ?_|refine X.H ?_|refine X.I ?_|fail)
  refine WL.fld hblk2 ?_
  intro p0
  repeat' (first|refine X.O ?_|refine X.A ?_|refine X.B ?_|refine X.C ?_|refine X.D ?_|refine X.E ?_|refine X.F ?_|refine X.G ?_|refine X.H ?_|refine X.I ?_|fail)
  refine WP.loop (fun (s : Nat × Value) => [(1, .pointer (some ⟨w.heap.size, 0, none⟩)), (3, s.2), (8, .slice aa x.1.length ca), (9, .int .i64 (x.1.length : Nat)), (10, .int .i64 (s.1 : Nat))])
    (fun s y => s.1 ≤ x.1.length ∧ Fw.Own w1.heap.size 9 y s.2 (((x.1.take s.1).map lineL).map St) ∧ Below w1.heap.size w1 y) (fun s => x.1.length - s.1) (0, v2) ⟨rfl, rfl, rfl, rfl, rfl, trivial⟩ ⟨by dsimp only; omega, hown2, hbl2⟩ ?_
  clear hown2 hbl2 hblk2
  rintro ⟨i, vp⟩ w3 ⟨hi1, hown, hb3⟩
  dsimp only at hi1 hown ⊢
  have hz3 := hb3.size
  have hblk := Blk.below hb1 hb3 (by omega)
  have hbw : Below w.heap.size w w3 := hbl1.trans (Below.mono hb3 (by omega))
  have hA3 := hA.below IS.stable hbw hhl
  have hB3 := hB.below RI.stable hbw hhl
  repeat' (first|refine X.O ?_|refine X.A ?_|refine X.B ?_|refine X.C ?_|refine X.D ?_|refine X.E ?_|refine X.F ?_|refine X.G ?_|refine X.H ?_|refine X.I ?_|fail)
  first|refine X.J (fun _ => ?_) (fun _ => ?_)|refine X.L (fun _ => ?_) (fun _ => ?_)|refine X.M (fun _ => ?_) (fun _ => ?_)|refine X.R (fun _ => ?_) (fun _ => ?_)|fail
  · rename_i hlt
    have hli : i < x.1.length := by omega
    have hrow := hx.row _ (List.getElem_mem hli)
    repeat' (first|refine X.O ?_|refine X.A ?_|refine X.B ?_|refine X.C ?_|refine X.D ?_|refine X.E ?_|refine X.F ?_|refine X.G ?_|refine X.H ?_|refine X.I ?_|fail)
    refine WL.ixload (j := i) hA3 (List.getElem?_eq_getElem hli) ?_
    intro p1 u1 hu1
    repeat' (first|refine X.O ?_|refine X.A ?_|refine X.B ?_|refine X.C ?_|refine X.D ?_|refine X.E ?_|refine X.F ?_|refine X.G ?_|refine X.H ?_|refine X.I ?_|fail)
    refine WL.call (numbersText_any hu1 hrow.2 (by omega) (hT10.below hbw)) ?_
    rintro _ w4 ⟨rfl, hb4⟩
    have hz4 := hb4.size
    refine o_append1 (u := St (lineL x.1[i])) (fun _ => by rfl) (by rfl) (hown.below hb4 (Nat.le_refl _)) rfl (by simp [maxLen]; omega) (by simp; omega) (by omega) ?_
    intro p2 v5 w5 hown5 hb5 _ hz5 _
    repeat' (first|refine X.O ?_|refine X.A ?_|refine X.B ?_|refine X.C ?_|refine X.D ?_|refine X.E ?_|refine X.F ?_|refine X.G ?_|refine X.H ?_|refine X.I ?_|fail)
    refine ⟨(i + 1, v5), ⟨rfl, rfl, rfl, rfl, X.T (by dsimp only; omega), trivial⟩, ⟨by dsimp only; omega, ?_, (hb3.trans (Below.mono hb4 hz3)).trans hb5⟩, by dsimp only; omega⟩
    dsimp only
    rw [take_text lineL hli, List.map_append]
    exact hown5
  · rename_i hge
    have e : x.1.take i = x.1 := List.take_of_length_le (by omega)
    have hlen := rows_take_length hx i
    rw [e] at hown hlen
    have hll := lineL_length hx.last
    have hte := tabText_eq x
    obtain ⟨ap, cp, hvp, _⟩ := hown.shape
    repeat' (first|refine X.O ?_|refine X.A ?_|refine X.B ?_|refine X.C ?_|refine X.D ?_|refine X.E ?_|refine X.F ?_|refine X.G ?_|refine X.H ?_|refine X.I ?_|fail)
    refine WP.drawn (fun w' => Below w3.heap.size w3 w') [(0, true), (3, true), (4, true), (1, false), (2, true), (5, false), (6, true), (7, true)] (by kernel_rfl) mixed ?_
    intro w4 hs4
    have hS4 : Below w3.heap.size w3 w4 := hs4.below _
    have hz4 := hS4.size
    repeat' (first|refine X.U rfl ?_|refine X.V rfl ?_|refine X.W rfl ?_|refine X.Y rfl ?_|refine X.Z rfl ?_|refine WS.nil ?_|fail)
    refine WS.fld rfl rfl (fun w' h => hblk.below h (by omega)) hS4 ?_
    intro p3
    refine WS.call rfl (Join_any (xs := x.1.map lineL) (hown.below hS4 (Nat.le_refl _)) [59] (by omega) (by simp; omega)) ?_
    rintro _ w5 ⟨rfl, hb5⟩
    have hS5 : Below w3.heap.size w3 w5 := hS4.trans (Below.mono hb5 (by omega))
    refine ⟨hS5, ?_⟩
    obtain ⟨T, hT⟩ : ∃ T, Lib.join (x.1.map lineL) [59] = T := ⟨_, rfl⟩
    rw [hT] at hlen hte ⊢
    refine WS.q rfl (q_cat (a := T) (b := [124]) (by rfl) (by rfl) (by simp; omega)) hS5 ?_
    refine WS.call rfl (numbersText_any (hB3.below RI.stable hS5 hB3.hi_le) hx.last (by omega) (hT10.below (hbw.trans (Below.mono hS5 (by omega))))) ?_
    rintro _ w6 ⟨rfl, hb6⟩
    have hz5 := hS5.size
    have hS6 : Below w3.heap.size w3 w6 := hS5.trans (Below.mono hb6 (by omega))
    refine ⟨hS6, ?_⟩
    refine WS.q rfl (q_cat (a := T ++ [124]) (by rfl) (by rfl) (by simp; omega)) hS6 ?_
    repeat' (first|refine X.U rfl ?_|refine X.V rfl ?_|refine X.W rfl ?_|refine X.Y rfl ?_|refine X.Z rfl ?_|refine WS.nil ?_|fail)
    repeat' (first|refine X.O ?_|refine X.A ?_|refine X.B ?_|refine X.C ?_|refine X.D ?_|refine X.E ?_|refine X.F ?_|refine X.G ?_|refine X.H ?_|refine X.I ?_|fail)
    refine ⟨_, ret1 rfl (by rfl), ?_⟩
    exact ⟨by rw [hte], hbw.trans (Below.mono hS6 (by omega))⟩
theorem sTableauText_any {lo hi : Nat} {w : World} {v : Value} {x : TabD} (h : IT lo hi w v x) : Does Tryz.prog 8 [v] w fun r w' => r = .tuple #[St (tableauText x).1, .int .i64 (tableauText x).2] ∧ Chg 0 0 w w' := by
  have hhl := h.hi_le
  obtain ⟨va, vb, rfl, hA, hB⟩ := h
  have hIT : IT lo hi w (.agg #[va, vb]) x := ⟨_, _, rfl, hA, hB⟩
  obtain ⟨aa, ca, hva⟩ := hA.shape
  obtain ⟨ab, cb, hvb⟩ := hB.shape
  subst hva hvb
  refine Does.enter Tryz.func8 Tryz.ntmps8 rfl (by rfl) ?_
  repeat' (first|refine X.O ?_|refine X.A ?_|refine X.B ?_|refine X.C ?_|refine X.D ?_|refine X.E ?_|refine X.F ?_|refine X.G ?_|refine X.H ?_|refine X.I ?_|fail)
  refine WL.step (o_box (by rfl) ?_)
  intro w1 hb1 hbl1 hz1
  have hI1 := hIT.below hbl1 hhl
  repeat' (first|refine X.O ?_|refine X.A ?_|refine X.B ?_|refine X.C ?_|refine X.D ?_|refine X.E ?_|refine X.F ?_|refine X.G ?_|refine X.H ?_|refine X.I ?_|fail)
  refine WL.step (o_loadS (by rfl) hb1 (by rfl) ?_)
  refine WL.call (l09Is_any hI1) ?_
  rintro _ w2 ⟨rfl, hc2⟩
  have hz2 := hc2.size
  have hbl2 : Below w.heap.size w w2 := hbl1.trans (hc2.below (by omega) (Or.inr (Nat.le_refl _)))
  have hI2 := hIT.below hbl2 hhl
  have hb2 := hb1.chg0 hc2
  by_cases hx : isTab x = true
  · have hX := isTab_iff hx
    have e : tableauText x = (tabText x, 0) := by unfold tableauText; rw [if_pos hx]
    rw [hx, e]
    repeat' (first|refine X.O ?_|refine X.A ?_|refine X.B ?_|refine X.C ?_|refine X.D ?_|refine X.E ?_|refine X.F ?_|refine X.G ?_|refine X.H ?_|refine X.I ?_|fail)
    refine WL.step (o_loadS (by rfl) hb2 (by rfl) ?_)
    refine WL.call (l09Text_any hI2 hX) ?_
    rintro _ w3 ⟨rfl, hb3⟩
    repeat' (first|refine X.O ?_|refine X.A ?_|refine X.B ?_|refine X.C ?_|refine X.D ?_|refine X.E ?_|refine X.F ?_|refine X.G ?_|refine X.H ?_|refine X.I ?_|fail)
    refine ⟨_, ret2 rfl (by rfl) (by rfl), ?_⟩
    exact ⟨rfl, Chg.of_below (hbl2.trans (Below.mono hb3 (by omega)))⟩
  · have e : tableauText x = ([], 1) := by unfold tableauText; rw [if_neg hx]
    rw [Bool.eq_false_iff.2 hx, e]
    repeat' (first|refine X.O ?_|refine X.A ?_|refine X.B ?_|refine X.C ?_|refine X.D ?_|refine X.E ?_|refine X.F ?_|refine X.G ?_|refine X.H ?_|refine X.I ?_|fail)
    refine ⟨_, ret2 rfl (by rfl) (by rfl), ?_⟩
    exact ⟨rfl, Chg.of_below hbl2⟩
theorem TableauText_any {lo hi : Nat} {w : World} {v : Value} {x : TabD} (h : IT lo hi w v x) (hT : T10 w) : Does Tryz.prog 7 [v] w fun r w' => r = .tuple #[St (tableauText x).1, .int .i64 (tableauText x).2] ∧ Chg 0 0 w w' := by
  have hhl := h.hi_le
  obtain ⟨va, vb, rfl, hA, hB⟩ := h
  have hIT : IT lo hi w (.agg #[va, vb]) x := ⟨_, _, rfl, hA, hB⟩
  obtain ⟨aa, ca, hva⟩ := hA.shape
  obtain ⟨ab, cb, hvb⟩ := hB.shape
  subst hva hvb
  refine Does.enter Tryz.func7 Tryz.ntmps7 rfl (by rfl) ?_
  repeat' (first|refine X.O ?_|refine X.A ?_|refine X.B ?_|refine X.C ?_|refine X.D ?_|refine X.E ?_|refine X.F ?_|refine X.G ?_|refine X.H ?_|refine X.I ?_|fail)
  refine WL.step (o_box (by rfl) ?_)
  intro w1 hb1 hbl1 hz1
  have hI1 := hIT.below hbl1 hhl
  repeat' (first|refine X.O ?_|refine X.A ?_|refine X.B ?_|refine X.C ?_|refine X.D ?_|refine X.E ?_|refine X.F ?_|refine X.G ?_|refine X.H ?_|refine X.I ?_|fail)
  refine WL.step (o_loadS (by rfl) hb1 (by rfl) ?_)
  refine WL.call (IsTableau_any hI1) ?_
  rintro _ w2 ⟨rfl, hc2⟩
  have hz2 := hc2.size
  have hbl2 : Below w.heap.size w w2 := hbl1.trans (hc2.below (by omega) (Or.inr (Nat.le_refl _)))
  have hI2 := hIT.below hbl2 hhl
  have hb2 := hb1.chg0 hc2
  by_cases hx : isTab x = true
  · have hX := isTab_iff hx
    have e : tableauText x = (tabText x, 0) := by unfold tableauText; rw [if_pos hx]
    rw [hx, e]
    repeat' (first|refine X.O ?_|refine X.A ?_|refine X.B ?_|refine X.C ?_|refine X.D ?_|refine X.E ?_|refine X.F ?_|refine X.G ?_|refine X.H ?_|refine X.I ?_|fail)
    refine WL.step (o_loadS (by rfl) hb2 (by rfl) ?_)
    refine WL.call (tableauText_any hI2 hX (hT.below hbl2)) ?_
    rintro _ w3 ⟨rfl, hb3⟩
    repeat' (first|refine X.O ?_|refine X.A ?_|refine X.B ?_|refine X.C ?_|refine X.D ?_|refine X.E ?_|refine X.F ?_|refine X.G ?_|refine X.H ?_|refine X.I ?_|fail)
    refine ⟨_, ret2 rfl (by rfl) (by rfl), ?_⟩
    exact ⟨rfl, Chg.of_below (hbl2.trans (Below.mono hb3 (by omega)))⟩
  · have e : tableauText x = ([], 1) := by unfold tableauText; rw [if_neg hx]
    rw [Bool.eq_false_iff.2 hx, e]
    repeat' (first|refine X.O ?_|refine X.A ?_|refine X.B ?_|refine X.C ?_|refine X.D ?_|refine X.E ?_|refine X.F ?_|refine X.G ?_|refine X.H ?_|refine X.I ?_|fail)
    refine ⟨_, ret2 rfl (by rfl) (by rfl), ?_⟩
    exact ⟨rfl, Chg.of_below hbl2⟩
end Go.Proofs
