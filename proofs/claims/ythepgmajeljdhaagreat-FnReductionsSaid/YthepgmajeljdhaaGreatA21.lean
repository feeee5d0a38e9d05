/- Alike stages: equality of lists, the sums of a row class by class. -/
import Derived.Test.YthepgmajeljdhaaGreatA5
import Derived.Test.YthepgmajeljdhaaGreatHB
import Derived.Test.YthepgmajeljdhaaGreatPlA
import Derived.Test.YthepgmajeljdhaaGreatT1
namespace Go.Proofs
open Go Go.Fw Go.RowKit Go.Rk

theorem l01Same_any {lo hi lo' hi' : Nat} {w : World} {v v' : Value} {xs ys : List Int} (h : IS lo hi w v xs) (h' : IS lo' hi' w v' ys) :
    Does Tryz.prog 112 [v, v'] w fun r w' => r = .bool (decide (xs = ys)) ∧ Still w w' := by
  obtain ⟨a, c, hv⟩ := h.shape
  obtain ⟨a', c', hv'⟩ := h'.shape
  rw [hv] at h ⊢
  rw [hv'] at h' ⊢
  have hm := h.len
  unfold maxLen at hm
  refine Does.enter Tryz.func112 Tryz.ntmps112 rfl (by rfl) ?_
  repeat' (first|refine X.O ?_|refine X.A ?_|refine X.B ?_|refine X.C ?_|refine X.D ?_|refine X.E ?_|refine X.F ?_|refine X.G ?_|refine X.H ?_|refine X.I ?_|fail)
  first|refine X.J (fun _ => ?_) (fun _ => ?_)|refine X.L (fun _ => ?_) (fun _ => ?_)|refine X.M (fun _ => ?_) (fun _ => ?_)|refine X.R (fun _ => ?_) (fun _ => ?_)|fail
  · rename_i hne
    repeat' (first|refine X.O ?_|refine X.A ?_|refine X.B ?_|refine X.C ?_|refine X.D ?_|refine X.E ?_|refine X.F ?_|refine X.G ?_|refine X.H ?_|refine X.I ?_|fail)
    refine ⟨_, ret1 rfl (by rfl), ?_⟩
    refine ⟨?_, Still.refl _⟩
    rw [decide_eq_false (fun e => hne (by rw [e]))]
  · rename_i heq
    have hl : xs.length = ys.length := by omega
    repeat' (first|refine X.O ?_|refine X.A ?_|refine X.B ?_|refine X.C ?_|refine X.D ?_|refine X.E ?_|refine X.F ?_|refine X.G ?_|refine X.H ?_|refine X.I ?_|fail)
    refine WP.loop (fun k => [(0, .slice a xs.length c), (1, .slice a' ys.length c'), (5, .int .i64 (k : Nat))]) (fun k w2 => k ≤ xs.length ∧ xs.take k = ys.take k ∧ Still w w2)
      (fun k => xs.length - k) 0 ⟨rfl, rfl, rfl, trivial⟩ ⟨by omega, by simp, Still.refl _⟩ ?_
    rintro k w2 ⟨hk, hkeq, hs2⟩
    repeat' (first|refine X.O ?_|refine X.A ?_|refine X.B ?_|refine X.C ?_|refine X.D ?_|refine X.E ?_|refine X.F ?_|refine X.G ?_|refine X.H ?_|refine X.I ?_|fail)
    first|refine X.J (fun _ => ?_) (fun _ => ?_)|refine X.L (fun _ => ?_) (fun _ => ?_)|refine X.M (fun _ => ?_) (fun _ => ?_)|refine X.R (fun _ => ?_) (fun _ => ?_)|fail
    · rename_i hlt
      have hlt' : k < xs.length := by omega
      have hlt2 : k < ys.length := by omega
      repeat' (first|refine X.O ?_|refine X.A ?_|refine X.B ?_|refine X.C ?_|refine X.D ?_|refine X.E ?_|refine X.F ?_|refine X.G ?_|refine X.H ?_|refine X.I ?_|fail)
      refine WP.drawn (fun w' => w'.heap = w2.heap) [(0, true), (1, true), (2, true), (3, true), (4, true), (5, true), (6, true), (7, true), (8, true)] (by kernel_rfl) mixed ?_
      intro w3 hs3
      have hw3 : w3.heap = w2.heap := hs3.heap
      have ha := (h.still RI.stable hs2).still RI.stable hs3
      have hb := (h'.still RI.stable hs2).still RI.stable hs3
      repeat' (first|refine X.U rfl ?_|refine X.V rfl ?_|refine X.W rfl ?_|refine X.Y rfl ?_|refine X.Z rfl ?_|refine WS.nil ?_|fail)
      refine WS.ixload rfl rfl ha (List.getElem?_eq_getElem hlt') (fun w' hw' => same_heap (hw'.trans hw3.symm)) hw3 ?_
      rintro p _ rfl
      repeat' (first|refine X.U rfl ?_|refine X.V rfl ?_|refine X.W rfl ?_|refine X.Y rfl ?_|refine X.Z rfl ?_|refine WS.nil ?_|fail)
      refine WS.ixload rfl rfl hb (List.getElem?_eq_getElem hlt2) (fun w' hw' => same_heap (hw'.trans hw3.symm)) hw3 ?_
      rintro p1 _ rfl
      repeat' (first|refine X.U rfl ?_|refine X.V rfl ?_|refine X.W rfl ?_|refine X.Y rfl ?_|refine X.Z rfl ?_|refine WS.nil ?_|fail)
      repeat' (first|refine X.O ?_|refine X.A ?_|refine X.B ?_|refine X.C ?_|refine X.D ?_|refine X.E ?_|refine X.F ?_|refine X.G ?_|refine X.H ?_|refine X.I ?_|fail)
      first|refine X.J (fun _ => ?_) (fun _ => ?_)|refine X.L (fun _ => ?_) (fun _ => ?_)|refine X.M (fun _ => ?_) (fun _ => ?_)|refine X.R (fun _ => ?_) (fun _ => ?_)|fail
      · rename_i hd
        repeat' (first|refine X.O ?_|refine X.A ?_|refine X.B ?_|refine X.C ?_|refine X.D ?_|refine X.E ?_|refine X.F ?_|refine X.G ?_|refine X.H ?_|refine X.I ?_|fail)
        refine ⟨_, ret1 rfl (by rfl), ?_⟩
        refine ⟨?_, hs2.trans hs3⟩
        rw [decide_eq_false (fun e => hd (by subst e; rfl))]
      · rename_i hd
        have hd' : xs[k] = ys[k] := by simpa using hd
        repeat' (first|refine X.O ?_|refine X.A ?_|refine X.B ?_|refine X.C ?_|refine X.D ?_|refine X.E ?_|refine X.F ?_|refine X.G ?_|refine X.H ?_|refine X.I ?_|fail)
        exact ⟨k + 1, ⟨rfl, rfl, rfl, trivial⟩, ⟨by omega, (take_eq_step hlt' hlt2 hkeq).2 hd', hs2.trans hs3⟩, by omega⟩
    · rename_i hge
      repeat' (first|refine X.O ?_|refine X.A ?_|refine X.B ?_|refine X.C ?_|refine X.D ?_|refine X.E ?_|refine X.F ?_|refine X.G ?_|refine X.H ?_|refine X.I ?_|fail)
      refine ⟨_, ret1 rfl (by rfl), ?_⟩
      refine ⟨?_, hs2⟩
      rw [decide_eq_true]
      have e1 : k = xs.length := by omega
      have e2 : k = ys.length := by omega
      have := hkeq
      rw [List.take_of_length_le (by omega), List.take_of_length_le (by omega)] at this
      exact this
theorem Equal_any {lo hi lo' hi' : Nat} {w : World} {v v' : Value} {xs ys : List Int} (h : IS lo hi w v xs) (h' : IS lo' hi' w v' ys) :
    Does Tryz.prog 81 [v, v'] w fun r w' => r = .bool (decide (xs = ys)) ∧ Still w w' := by
  obtain ⟨a, c, hv⟩ := h.shape
  obtain ⟨a', c', hv'⟩ := h'.shape
  rw [hv] at h ⊢
  rw [hv'] at h' ⊢
  have hm := h.len
  unfold maxLen at hm
  refine Does.enter Tryz.func81 Tryz.ntmps81 rfl (by rfl) ?_
  repeat' (first|refine X.O ?_|refine X.A ?_|refine X.B ?_|refine X.C ?_|refine X.D ?_|refine X.E ?_|refine X.F ?_|refine X.G ?_|refine X.H ?_|refine X.I ?_|fail)
  first|refine X.J (fun _ => ?_) (fun _ => ?_)|refine X.L (fun _ => ?_) (fun _ => ?_)|refine X.M (fun _ => ?_) (fun _ => ?_)|refine X.R (fun _ => ?_) (fun _ => ?_)|fail
  · rename_i hne
    repeat' (first|refine X.O ?_|refine X.A ?_|refine X.B ?_|refine X.C ?_|refine X.D ?_|refine X.E ?_|refine X.F ?_|refine X.G ?_|refine X.H ?_|refine X.I ?_|fail)
    refine ⟨_, ret1 rfl (by rfl), ?_⟩
    refine ⟨?_, Still.refl _⟩
    rw [decide_eq_false (fun e => hne (by rw [e]))]
  · rename_i heq
    have hl : xs.length = ys.length := by omega
    repeat' (first|refine X.O ?_|refine X.A ?_|refine X.B ?_|refine X.C ?_|refine X.D ?_|refine X.E ?_|refine X.F ?_|refine X.G ?_|refine X.H ?_|refine X.I ?_|fail)
    refine WP.loop (fun k => [(0, .slice a xs.length c), (1, .slice a' ys.length c'), (12, .int .i64 (xs.length : Nat)), (13, .int .i64 (k : Nat))]) (fun k w2 => k ≤ xs.length ∧ xs.take k = ys.take k ∧ Still w w2)
      (fun k => xs.length - k) 0 ⟨rfl, rfl, rfl, rfl, trivial⟩ ⟨by omega, by simp, Still.refl _⟩ ?_
    rintro k w2 ⟨hk, hkeq, hs2⟩
    repeat' (first|refine X.O ?_|refine X.A ?_|refine X.B ?_|refine X.C ?_|refine X.D ?_|refine X.E ?_|refine X.F ?_|refine X.G ?_|refine X.H ?_|refine X.I ?_|fail)
    first|refine X.J (fun _ => ?_) (fun _ => ?_)|refine X.L (fun _ => ?_) (fun _ => ?_)|refine X.M (fun _ => ?_) (fun _ => ?_)|refine X.R (fun _ => ?_) (fun _ => ?_)|fail
    · rename_i hlt
      have hlt' : k < xs.length := by omega
      have hlt2 : k < ys.length := by omega
      repeat' (first|refine X.O ?_|refine X.A ?_|refine X.B ?_|refine X.C ?_|refine X.D ?_|refine X.E ?_|refine X.F ?_|refine X.G ?_|refine X.H ?_|refine X.I ?_|fail)
      refine WP.drawn (fun w' => w'.heap = w2.heap) [(0, true), (1, true), (2, true), (3, true), (4, true), (5, true), (6, true), (7, true), (8, true)] (by kernel_rfl) mixed ?_
      intro w3 hs3
      have hw3 : w3.heap = w2.heap := hs3.heap
      have ha := (h.still RI.stable hs2).still RI.stable hs3
      have hb := (h'.still RI.stable hs2).still RI.stable hs3
      repeat' (first|refine X.U rfl ?_|refine X.V rfl ?_|refine X.W rfl ?_|refine X.Y rfl ?_|refine X.Z rfl ?_|refine WS.nil ?_|fail)
      refine WS.ixload rfl rfl ha (List.getElem?_eq_getElem hlt') (fun w' hw' => same_heap (hw'.trans hw3.symm)) hw3 ?_
      rintro p _ rfl
      repeat' (first|refine X.U rfl ?_|refine X.V rfl ?_|refine X.W rfl ?_|refine X.Y rfl ?_|refine X.Z rfl ?_|refine WS.nil ?_|fail)
      refine WS.ixload rfl rfl hb (List.getElem?_eq_getElem hlt2) (fun w' hw' => same_heap (hw'.trans hw3.symm)) hw3 ?_
      rintro p1 _ rfl
      repeat' (first|refine X.U rfl ?_|refine X.V rfl ?_|refine X.W rfl ?_|refine X.Y rfl ?_|refine X.Z rfl ?_|refine WS.nil ?_|fail)
      repeat' (first|refine X.O ?_|refine X.A ?_|refine X.B ?_|refine X.C ?_|refine X.D ?_|refine X.E ?_|refine X.F ?_|refine X.G ?_|refine X.H ?_|refine X.I ?_|fail)
      first|refine X.J (fun _ => ?_) (fun _ => ?_)|refine X.L (fun _ => ?_) (fun _ => ?_)|refine X.M (fun _ => ?_) (fun _ => ?_)|refine X.R (fun _ => ?_) (fun _ => ?_)|fail
      · rename_i hd
        repeat' (first|refine X.O ?_|refine X.A ?_|refine X.B ?_|refine X.C ?_|refine X.D ?_|refine X.E ?_|refine X.F ?_|refine X.G ?_|refine X.H ?_|refine X.I ?_|fail)
        refine ⟨_, ret1 rfl (by rfl), ?_⟩
        refine ⟨?_, hs2.trans hs3⟩
        rw [decide_eq_false (fun e => hd (by subst e; rfl))]
      · rename_i hd
        have hd' : xs[k] = ys[k] := by simpa using hd
        repeat' (first|refine X.O ?_|refine X.A ?_|refine X.B ?_|refine X.C ?_|refine X.D ?_|refine X.E ?_|refine X.F ?_|refine X.G ?_|refine X.H ?_|refine X.I ?_|fail)
        exact ⟨k + 1, ⟨rfl, rfl, rfl, (by first|rfl|exact X.T (by omega)), trivial⟩, ⟨by omega, (take_eq_step hlt' hlt2 hkeq).2 hd', hs2.trans hs3⟩, by omega⟩
    · rename_i hge
      repeat' (first|refine X.O ?_|refine X.A ?_|refine X.B ?_|refine X.C ?_|refine X.D ?_|refine X.E ?_|refine X.F ?_|refine X.G ?_|refine X.H ?_|refine X.I ?_|fail)
      refine ⟨_, ret1 rfl (by rfl), ?_⟩
      refine ⟨?_, hs2⟩
      rw [decide_eq_true]
      have e1 : k = xs.length := by omega
      have e2 : k = ys.length := by omega
      have := hkeq
      rw [List.take_of_length_le (by omega), List.take_of_length_le (by omega)] at this
      exact this
theorem classSums_any {lo hi lo' hi' : Nat} {w : World} {v v' : Value} {row cls : List Int} (h : IS lo hi w v row) (h' : IS lo' hi' w v' cls) (hl : row.length = cls.length) (hn : cls.length ≤ 1000) (hr : allN row = true) (hc : Cls cls.length cls) :
    Does Tryz.prog 70 [v, v'] w fun r w' => NewI w r w' (sumsL row cls) := by
  obtain ⟨a, c, hv⟩ := h.shape
  obtain ⟨a', c', hv'⟩ := h'.shape
  rw [hv] at h ⊢
  rw [hv'] at h' ⊢
  have hz := h.hi_le
  have hz' := h'.hi_le
  refine Does.enter Tryz.func70 Tryz.ntmps70 rfl (by rfl) ?_
  repeat' (first|refine X.O ?_|refine X.A ?_|refine X.B ?_|refine X.C ?_|refine X.D ?_|refine X.E ?_|refine X.F ?_|refine X.G ?_|refine X.H ?_|refine X.I ?_|fail)
  refine WL.step (o_make (n := row.length) (by rfl) (by rfl) (by omega) (by unfold maxLen; omega) ?_)
  intro v1 w1 hown1 hbl1 hz1
  have e0 : List.replicate row.length (Value.int .i64 0) = Ints (List.replicate cls.length 0) := by rw [hl]; simp [Ints]
  rw [e0] at hown1
  repeat' (first|refine X.O ?_|refine X.A ?_|refine X.B ?_|refine X.C ?_|refine X.D ?_|refine X.E ?_|refine X.F ?_|refine X.G ?_|refine X.H ?_|refine X.I ?_|fail)
  refine WP.loop (fun (s : Nat × List Int) => [(1, .slice a' cls.length c'), (5, v1), (11, .slice a row.length c), (12, .int .i64 (row.length : Nat)), (13, .int .i64 (s.1 : Nat))])
    (fun s w2 => s.1 ≤ row.length ∧ s.2.length = cls.length ∧ allN s.2 = true ∧ sumsL row cls = csGo s.2 (row.drop s.1) (cls.drop s.1) ∧ Own w.heap.size 2 w2 v1 (Ints s.2) ∧ Below w.heap.size w w2)
    (fun s => row.length - s.1) (0, List.replicate cls.length 0) ⟨rfl, rfl, rfl, rfl, rfl, trivial⟩ ⟨by dsimp only; omega, by simp, allN_zeros _, rfl, hown1, hbl1⟩ ?_
  rintro ⟨k, out⟩ w2 ⟨hk, hol, hon, heq, hown2, hb2⟩
  dsimp only at hk hol hon heq hown2 ⊢
  have hz2 := hb2.size
  repeat' (first|refine X.O ?_|refine X.A ?_|refine X.B ?_|refine X.C ?_|refine X.D ?_|refine X.E ?_|refine X.F ?_|refine X.G ?_|refine X.H ?_|refine X.I ?_|fail)
  first|refine X.J (fun _ => ?_) (fun _ => ?_)|refine X.L (fun _ => ?_) (fun _ => ?_)|refine X.M (fun _ => ?_) (fun _ => ?_)|refine X.R (fun _ => ?_) (fun _ => ?_)|fail
  · rename_i hlt
    have hlr : k < row.length := by omega
    have hlc : k < cls.length := by omega
    have hcb := hc.get hlc
    have hlo : cls[k].toNat < out.length := by omega
    have hrb := allN_get hr hlr
    have hob := allN_get hon hlo
    rw [csGo_drop hlr hlc, List.getElem?_eq_getElem hlo, Option.getD_some] at heq
    repeat' (first|refine X.O ?_|refine X.A ?_|refine X.B ?_|refine X.C ?_|refine X.D ?_|refine X.E ?_|refine X.F ?_|refine X.G ?_|refine X.H ?_|refine X.I ?_|fail)
    refine WL.ixload (h.below RI.stable hb2 hz) (List.getElem?_eq_getElem hlr) ?_
    rintro p1 _ rfl
    repeat' (first|refine X.O ?_|refine X.A ?_|refine X.B ?_|refine X.C ?_|refine X.D ?_|refine X.E ?_|refine X.F ?_|refine X.G ?_|refine X.H ?_|refine X.I ?_|fail)
    refine WP.drawn (fun w' => w'.heap = w2.heap) [(0, true), (1, true), (2, true), (3, true), (4, true), (5, true), (6, true), (7, true), (8, true), (9, true), (10, true), (11, true), (12, true), (13, true), (14, false), (15, true), (1016, false)] (by kernel_rfl) mixed ?_
    intro w3 hs3
    have hw3 : w3.heap = w2.heap := hs3.heap
    have h3 := (h'.below RI.stable hb2 hz').still RI.stable hs3
    have hown3 := hown2.still hs3
    repeat' (first|refine X.U rfl ?_|refine X.V rfl ?_|refine X.W rfl ?_|refine X.Y rfl ?_|refine X.Z rfl ?_|refine WS.nil ?_|fail)
    refine WS.ixload rfl rfl h3 (List.getElem?_eq_getElem hlc) (fun w' hw' => same_heap (hw'.trans hw3.symm)) hw3 ?_
    rintro p2 _ rfl
    repeat' (first|refine X.U rfl ?_|refine X.V rfl ?_|refine X.W rfl ?_|refine X.Y rfl ?_|refine X.Z rfl ?_|refine WS.nil ?_|fail)
    refine WS.ixload rfl rfl h3 (List.getElem?_eq_getElem hlc) (fun w' hw' => same_heap (hw'.trans hw3.symm)) hw3 ?_
    rintro p3 _ rfl
    refine WS.ixload (j := cls[k].toNat) rfl rfl (Own.is hown3) (List.getElem?_eq_getElem hlo) (fun w' hw' => same_heap (hw'.trans hw3.symm)) hw3 ?_
    rintro p4 _ rfl
    repeat' (first|refine X.U rfl ?_|refine X.V rfl ?_|refine X.W rfl ?_|refine X.Y rfl ?_|refine X.Z rfl ?_|refine WS.nil ?_|fail)
    refine WS.call rfl (num_any _ _) ?_
    rintro _ _ ⟨rfl, rfl⟩
    refine ⟨hw3, ?_⟩
    refine WS.ixstore (j := cls[k].toNat) rfl rfl hw3 hown3 (by rw [Ints_length]; exact hlo) ?_
    intro p5 w4 hown4 hbl4 hz4 _
    rw [Ints_set] at hown4
    refine WS.nil ?_
    repeat' (first|refine X.O ?_|refine X.A ?_|refine X.B ?_|refine X.C ?_|refine X.D ?_|refine X.E ?_|refine X.F ?_|refine X.G ?_|refine X.H ?_|refine X.I ?_|fail)
    exact ⟨(k + 1, out.set cls[k].toNat (nm (out[cls[k].toNat] + row[k]))), ⟨rfl, rfl, rfl, rfl, (by first|rfl|exact X.T (by omega)), trivial⟩, ⟨by dsimp only; omega, by rw [List.length_set]; exact hol, allN_set hon _ _ (nm_isN _), heq, hown4, (hb2.trans (hs3.below _)).trans hbl4⟩, by dsimp only; omega⟩
  · rename_i hge
    rw [csGo_end (by omega)] at heq
    repeat' (first|refine X.O ?_|refine X.A ?_|refine X.B ?_|refine X.C ?_|refine X.D ?_|refine X.E ?_|refine X.F ?_|refine X.G ?_|refine X.H ?_|refine X.I ?_|fail)
    refine ⟨_, ret1 rfl (by rfl), ?_⟩
    rw [heq]
    exact ⟨hown2, hb2⟩
end Go.Proofs
/- Alike stages, the program's. -/
namespace Go.Proofs
open Go Go.Fw Go.RowKit Go.Rk
theorem stages_at {lo hi : Nat} {w : World} {v : Value} {x : TabD} (h : IT lo hi w v x) : Does Tryz.prog 53 [v] w fun r w' => r = .int .i64 (x.2.length : Nat) ∧ Chg 0 0 w w' := by
  obtain ⟨va, vb, rfl, hA, hB⟩ := h
  obtain ⟨a', c', hvb⟩ := hB.shape
  subst hvb
  have hm := hB.len
  unfold maxLen at hm
  refine Does.enter Tryz.func53 Tryz.ntmps53 rfl (by rfl) ?_
  repeat' (first|refine X.O ?_|refine X.A ?_|refine X.B ?_|refine X.C ?_|refine X.D ?_|refine X.E ?_|refine X.F ?_|refine X.G ?_|refine X.H ?_|refine X.I ?_|fail)
  refine WL.step (o_box (by rfl) ?_)
  intro w1 hb1 hbl1 hz1
  repeat' (first|refine X.O ?_|refine X.A ?_|refine X.B ?_|refine X.C ?_|refine X.D ?_|refine X.E ?_|refine X.F ?_|refine X.G ?_|refine X.H ?_|refine X.I ?_|fail)
  refine WL.fld hb1 ?_
  intro p1
  repeat' (first|refine X.O ?_|refine X.A ?_|refine X.B ?_|refine X.C ?_|refine X.D ?_|refine X.E ?_|refine X.F ?_|refine X.G ?_|refine X.H ?_|refine X.I ?_|fail)
  refine ⟨_, ret1 rfl (by rfl), ?_⟩
  exact ⟨rfl, Chg.of_below hbl1⟩
theorem matchC_eq {xss : List (List Int)} {cls : List Int} {k i : Nat} (hk : k < xss.length) (hi : i < xss.length) (hk2 : k < cls.length) (hi2 : i < cls.length) :
    matchC xss cls k i = (decide (cls[k] = cls[i]) && decide (sumsL xss[k] cls = sumsL xss[i] cls)) := by
  unfold matchC
  rw [List.getElem?_eq_getElem hk, List.getElem?_eq_getElem hi, List.getElem?_eq_getElem hk2, List.getElem?_eq_getElem hi2]
  rfl
theorem alike_any {lo hi : Nat} {w : World} {v : Value} {x : TabD} (h : IT lo hi w v x) (hx : Tab x) :
    Does Tryz.prog 40 [v] w fun r w' => NewI w r w' (alikeL x) := by
  have hz := h.hi_le
  obtain ⟨va, vb, rfl, hA, hB⟩ := h
  obtain ⟨aa, ca, hva⟩ := hA.shape
  subst hva
  have hT : IT lo hi w (.agg #[.slice aa x.1.length ca, vb]) x := ⟨_, _, rfl, hA, hB⟩
  have hm := hx.le8
  have hp := hx.pos
  have hsq := hx.sq
  refine Does.enter Tryz.func40 Tryz.ntmps40 rfl (by rfl) ?_
  repeat' (first|refine X.O ?_|refine X.A ?_|refine X.B ?_|refine X.C ?_|refine X.D ?_|refine X.E ?_|refine X.F ?_|refine X.G ?_|refine X.H ?_|refine X.I ?_|fail)
  refine WL.step (o_box (by rfl) ?_)
  intro w0 hb0 hbl0 hz0
  replace hT := hT.below hbl0 hz
  repeat' (first|refine X.O ?_|refine X.A ?_|refine X.B ?_|refine X.C ?_|refine X.D ?_|refine X.E ?_|refine X.F ?_|refine X.G ?_|refine X.H ?_|refine X.I ?_|fail)
  refine WL.step (o_loadS (by rfl) hb0 (by rfl) ?_)
  refine WL.call (stages_at hT) ?_
  rintro _ w1 ⟨rfl, hc1⟩
  have hz1 := hc1.size
  have hbl1 : Below w.heap.size w w1 := hbl0.trans (hc1.below (by omega) (by omega))
  have hb1 := hb0.chg0 hc1
  refine WL.step (o_make (n := x.2.length) (by rfl) (by rfl) (by omega) (by unfold maxLen; omega) ?_)
  intro v2 w2 hown2 hbl2 hz2
  have e0 : List.replicate x.2.length (Value.int .i64 0) = Ints (List.replicate x.2.length 0) := by simp [Ints]
  rw [e0] at hown2
  repeat' (first|refine X.O ?_|refine X.A ?_|refine X.B ?_|refine X.C ?_|refine X.D ?_|refine X.E ?_|refine X.F ?_|refine X.G ?_|refine X.H ?_|refine X.I ?_|fail)
  refine WP.loop (fun (s : List Int × Value × Nat) => [(1, .pointer (some ⟨w.heap.size, 0, none⟩)), (3, s.2.1)])
    (fun s w3 => Cls x.2.length s.1 ∧ s.2.2 < x.2.length ∧ alikeL x = itN x.1 s.1 (x.2.length - s.2.2) ∧ 1 + s.2.2 ≤ roots x.2.length s.1 ∧ Own w1.heap.size 2 w3 s.2.1 (Ints s.1) ∧ Below w1.heap.size w1 w3)
    (fun s => x.2.length - s.2.2) (List.replicate x.2.length 0, v2, 0) ⟨rfl, rfl, trivial⟩ ⟨cls_zero _, by dsimp only; omega, rfl, by dsimp only; have := roots_zero hp; omega, hown2, hbl2⟩ ?_
  rintro ⟨cls, vc, t⟩ w3 ⟨hcls, ht, hal, hroots, hown3, hbl3⟩
  dsimp only at hcls ht hal hroots hown3 ⊢
  have hz3 := hbl3.size
  have hcl := hcls.1
  have hC3 := Own.is hown3
  obtain ⟨ac, cc, hvc⟩ := hC3.shape
  subst hvc
  have hb3 := hb1.below hbl3 (by omega)
  have hA3 := (hA.below IS.stable hbl1 hz).below IS.stable hbl3 (by omega)
  have hwo : w.heap.size < w3.heap.size := by omega
  repeat' (first|refine X.O ?_|refine X.A ?_|refine X.B ?_|refine X.C ?_|refine X.D ?_|refine X.E ?_|refine X.F ?_|refine X.G ?_|refine X.H ?_|refine X.I ?_|fail)
  refine WL.step (o_lit (us := []) (by rfl) (by rfl) rfl (by decide) one0 ?_)
  intro v4 w4 hown4 hbl4 hz4 _
  repeat' (first|refine X.O ?_|refine X.A ?_|refine X.B ?_|refine X.C ?_|refine X.D ?_|refine X.E ?_|refine X.F ?_|refine X.G ?_|refine X.H ?_|refine X.I ?_|fail)
  have hrl := refineL_length x.1 cls
  obtain ⟨nx, hnx⟩ : ∃ nx, refineL x.1 cls = nx := ⟨_, rfl⟩
  rw [hnx] at hrl
  refine WP.loop (fun (s : Nat × Value) => [(1, .pointer (some ⟨w.heap.size, 0, none⟩)), (3, .slice ac cls.length cc), (4, s.2), (12, .int .i64 (cls.length : Nat)), (13, .int .i64 (s.1 : Nat))])
    (fun s w5 => s.1 ≤ cls.length ∧ Own w3.heap.size 2 w5 s.2 (Ints (nx.take s.1)) ∧ Below w3.heap.size w3 w5)
    (fun s => cls.length - s.1) (0, v4) ⟨rfl, rfl, rfl, rfl, rfl, trivial⟩ ⟨by dsimp only; omega, by simpa [Ints] using hown4, hbl4⟩ ?_
  rintro ⟨i, vn⟩ w5 ⟨hi1, hown5, hbl5⟩
  dsimp only at hi1 hown5 ⊢
  have hz5 := hbl5.size
  repeat' (first|refine X.O ?_|refine X.A ?_|refine X.B ?_|refine X.C ?_|refine X.D ?_|refine X.E ?_|refine X.F ?_|refine X.G ?_|refine X.H ?_|refine X.I ?_|fail)
  first|refine X.J (fun _ => ?_) (fun _ => ?_)|refine X.L (fun _ => ?_) (fun _ => ?_)|refine X.M (fun _ => ?_) (fun _ => ?_)|refine X.R (fun _ => ?_) (fun _ => ?_)|fail
  · rename_i hlt
    have hli : i < cls.length := by omega
    have hlia : i < x.1.length := by omega
    have hrowi := hx.row _ (List.getElem_mem hlia)
    repeat' (first|refine X.O ?_|refine X.A ?_|refine X.B ?_|refine X.C ?_|refine X.D ?_|refine X.E ?_|refine X.F ?_|refine X.G ?_|refine X.H ?_|refine X.I ?_|fail)
    refine WP.loop (fun (k : Nat) => [(1, .pointer (some ⟨w.heap.size, 0, none⟩)), (3, .slice ac cls.length cc), (4, vn), (5, .int .i64 (i : Nat)), (6, .int .i64 (k : Nat)), (12, .int .i64 (cls.length : Nat)), (13, .int .i64 (i : Nat))])
      (fun k w6 => k ≤ i ∧ (∀ j, j < k → matchC x.1 cls j i = false) ∧ Below w5.heap.size w5 w6)
      (fun k => i - k) 0 ⟨rfl, rfl, rfl, rfl, rfl, rfl, rfl, trivial⟩ ⟨by omega, fun j hj => absurd hj (by omega), Below.refl _ _⟩ ?_
    rintro k w6 ⟨hk, hnom, hbl6⟩
    have hz6 := hbl6.size
    have hlk : k < cls.length := by omega
    have hlka : k < x.1.length := by omega
    have hrowk := hx.row _ (List.getElem_mem hlka)
    have hmk := matchC_eq hlka hlia hlk hli
    have hB36 : Below w3.heap.size w3 w6 := hbl5.trans (Below.mono hbl6 (by omega))
    have hC6 := hC3.below RI.stable hB36 (Nat.le_refl _)
    have hA6 := hA3.below IS.stable hB36 (by omega)
    have hb6 := hb3.below hB36 hwo
    repeat' (first|refine X.O ?_|refine X.A ?_|refine X.B ?_|refine X.C ?_|refine X.D ?_|refine X.E ?_|refine X.F ?_|refine X.G ?_|refine X.H ?_|refine X.I ?_|fail)
    refine WP.drawn (fun w' => Below w6.heap.size w6 w') [(0, true), (1, true), (2, true), (3, true), (4, true), (5, true), (6, true), (7, true), (8, true), (9, true), (10, true), (11, true), (12, true), (13, true), (14, true), (15, true), (17, true), (18, true), (19, true), (20, true), (21, true), (22, true), (16, false), (23, false), (24, false), (25, true), (26, true)] (by kernel_rfl) mixed ?_
    intro w7 hs7
    have hS7 : Below w6.heap.size w6 w7 := hs7.below _
    have hz7 := hs7.size
    repeat' (first|refine X.U rfl ?_|refine X.V rfl ?_|refine X.W rfl ?_|refine X.Y rfl ?_|refine X.Z rfl ?_|refine WS.nil ?_|fail)
    refine WS.ixload rfl rfl (hC6.still RI.stable hs7) (List.getElem?_eq_getElem hlk) (fun w' hw' => same_below hS7 hw' (by omega)) hS7 ?_
    rintro p1 _ rfl
    repeat' (first|refine X.U rfl ?_|refine X.V rfl ?_|refine X.W rfl ?_|refine X.Y rfl ?_|refine X.Z rfl ?_|refine WS.nil ?_|fail)
    refine WS.ixload rfl rfl (hC6.still RI.stable hs7) (List.getElem?_eq_getElem hli) (fun w' hw' => same_below hS7 hw' (by omega)) hS7 ?_
    rintro p2 _ rfl
    repeat' (first|refine X.U rfl ?_|refine X.V rfl ?_|refine X.W rfl ?_|refine X.Y rfl ?_|refine X.Z rfl ?_|refine WS.nil ?_|fail)
    refine WS.splitD (t := 25) (by rfl) (fun hne => ?_) (fun heq => ?_)
    · have hfm : matchC x.1 cls k i = false := by rw [hmk, decide_eq_false hne]; rfl
      have hki : k ≠ i := fun e => hne (by subst e; rfl)
      repeat' (first|refine X.U rfl ?_|refine X.V rfl ?_|refine X.W rfl ?_|refine X.Y rfl ?_|refine X.Z rfl ?_|refine WS.nil ?_|fail)
      refine WS.op rfl (OpW.pass (by rfl) ⟨hS7, ?_⟩)
      refine WS.op rfl (OpW.pass (by rfl) ⟨hS7, ?_⟩)
      refine WS.op rfl (OpW.pass (by rfl) ⟨hS7, ?_⟩)
      repeat' (first|refine X.U rfl ?_|refine X.V rfl ?_|refine X.W rfl ?_|refine X.Y rfl ?_|refine X.Z rfl ?_|refine WS.nil ?_|fail)
      repeat' (first|refine X.O ?_|refine X.A ?_|refine X.B ?_|refine X.C ?_|refine X.D ?_|refine X.E ?_|refine X.F ?_|refine X.G ?_|refine X.H ?_|refine X.I ?_|fail)
      refine ⟨k + 1, ⟨rfl, rfl, rfl, rfl, (by first|rfl|exact X.T (by omega)), rfl, rfl, trivial⟩, ⟨by omega, fun j hj => ?_, hbl6.trans (hs7.below _)⟩, by omega⟩
      by_cases hjk : j = k
      · rw [hjk]; exact hfm
      · exact hnom j (by omega)
    · have heq' := Decidable.not_not.1 heq
      rw [decide_eq_true heq', Bool.true_and] at hmk
      have hA7 := hA6.still IS.stable hs7
      repeat' (first|refine X.U rfl ?_|refine X.V rfl ?_|refine X.W rfl ?_|refine X.Y rfl ?_|refine X.Z rfl ?_|refine WS.nil ?_|fail)
      refine WS.fld rfl rfl (fun w' h => hb6.below h (by omega)) hS7 ?_
      intro p3
      repeat' (first|refine X.U rfl ?_|refine X.V rfl ?_|refine X.W rfl ?_|refine X.Y rfl ?_|refine X.Z rfl ?_|refine WS.nil ?_|fail)
      refine WS.ixload rfl rfl hA7 (List.getElem?_eq_getElem hlka) (fun w' hw' => same_below hS7 hw' (by omega)) hS7 ?_
      intro p4 uk huk
      repeat' (first|refine X.U rfl ?_|refine X.V rfl ?_|refine X.W rfl ?_|refine X.Y rfl ?_|refine X.Z rfl ?_|refine WS.nil ?_|fail)
      refine WS.fld rfl rfl (fun w' h => hb6.below h (by omega)) hS7 ?_
      intro p5
      repeat' (first|refine X.U rfl ?_|refine X.V rfl ?_|refine X.W rfl ?_|refine X.Y rfl ?_|refine X.Z rfl ?_|refine WS.nil ?_|fail)
      refine WS.ixload rfl rfl hA7 (List.getElem?_eq_getElem hlia) (fun w' hw' => same_below hS7 hw' (by omega)) hS7 ?_
      intro p6 ui hui
      repeat' (first|refine X.U rfl ?_|refine X.V rfl ?_|refine X.W rfl ?_|refine X.Y rfl ?_|refine X.Z rfl ?_|refine WS.nil ?_|fail)
      have hC7 := hC6.still RI.stable hs7
      refine WS.call rfl (classSums_any huk hC7 (by omega) (by omega) hrowk.2 (by rw [hcl]; exact hcls)) ?_
      intro v8 w8 hN8
      have hz8 := hN8.2.size
      have hS8 : Below w6.heap.size w6 w8 := hS7.trans (Below.mono hN8.2 (by omega))
      refine ⟨hS8, ?_⟩
      refine WS.call rfl (classSums_any (hui.below RI.stable hN8.2 (by omega)) (hC7.below RI.stable hN8.2 (by omega)) (by omega) (by omega) hrowi.2 (by rw [hcl]; exact hcls)) ?_
      intro v9 w9 hN9
      have hz9 := hN9.2.size
      have hS9 : Below w6.heap.size w6 w9 := hS8.trans (Below.mono hN9.2 (by omega))
      refine ⟨hS9, ?_⟩
      refine WS.call rfl (Equal_any (hN8.ow.rd.below RI.stable hN9.2 (Nat.le_refl _)) hN9.ow.rd) ?_
      rintro _ w10 ⟨rfl, hs10⟩
      have hS10 : Below w6.heap.size w6 w10 := hS9.trans (hs10.below _)
      have hz10 := hs10.size
      refine ⟨hS10, ?_⟩
      rw [← hmk]
      repeat' (first|refine X.U rfl ?_|refine X.V rfl ?_|refine X.W rfl ?_|refine X.Y rfl ?_|refine X.Z rfl ?_|refine WS.nil ?_|fail)
      repeat' (first|refine X.O ?_|refine X.A ?_|refine X.B ?_|refine X.C ?_|refine X.D ?_|refine X.E ?_|refine X.F ?_|refine X.G ?_|refine X.H ?_|refine X.I ?_|fail)
      have hbl10 : Below w5.heap.size w5 w10 := hbl6.trans (Below.mono hS10 (by omega))
      first|refine X.J (fun _ => ?_) (fun _ => ?_)|refine X.L (fun _ => ?_) (fun _ => ?_)|refine X.M (fun _ => ?_) (fun _ => ?_)|refine X.R (fun _ => ?_) (fun _ => ?_)|fail
      · rename_i hf
        have hki : k ≠ i := fun e => by subst e; rw [matchC_self] at hf; cases hf
        repeat' (first|refine X.O ?_|refine X.A ?_|refine X.B ?_|refine X.C ?_|refine X.D ?_|refine X.E ?_|refine X.F ?_|refine X.G ?_|refine X.H ?_|refine X.I ?_|fail)
        refine ⟨k + 1, ⟨rfl, rfl, rfl, rfl, (by first|rfl|exact X.T (by omega)), rfl, rfl, trivial⟩, ⟨by omega, fun j hj => ?_, hbl10⟩, by omega⟩
        by_cases hjk : j = k
        · rw [hjk]; exact hf
        · exact hnom j (by omega)
      · rename_i htm
        have hleast : leastC x.1 cls i = k := leastN_eq hk htm hnom
        have hown10 := hown5.below hbl10 (Nat.le_refl _)
        repeat' (first|refine X.O ?_|refine X.A ?_|refine X.B ?_|refine X.C ?_|refine X.D ?_|refine X.E ?_|refine X.F ?_|refine X.G ?_|refine X.H ?_|refine X.I ?_|fail)
        refine o_append1 (u := .int .i64 _) (fun _ => by rfl) (by rfl) hown10 rfl (by simp [Ints, hrl, maxLen]; omega) (by simp [Ints, hrl]; omega) (by omega) ?_
        intro p7 v11 w11 hown11 hb11 _ _ _
        repeat' (first|refine X.O ?_|refine X.A ?_|refine X.B ?_|refine X.C ?_|refine X.D ?_|refine X.E ?_|refine X.F ?_|refine X.G ?_|refine X.H ?_|refine X.I ?_|fail)
        refine ⟨(i + 1, v11), ⟨rfl, rfl, rfl, rfl, (by first|rfl|exact X.T (by omega)), trivial⟩, ⟨by dsimp only; omega, ?_, (hbl5.trans (Below.mono hbl10 (by omega))).trans hb11⟩, by dsimp only; omega⟩
        dsimp only
        rw [← Ints_snoc (show i < nx.length by omega) (y := ((k : Nat) : Int)) (by subst hnx; rw [refineL_get, hleast])]
        exact hown11
  · rename_i hge
    have hie : i = cls.length := by omega
    subst hie
    rw [List.take_of_length_le (by omega)] at hown5
    have hC5 := hC3.below RI.stable hbl5 (Nat.le_refl _)
    have hN5 := Own.is hown5
    repeat' (first|refine X.O ?_|refine X.A ?_|refine X.B ?_|refine X.C ?_|refine X.D ?_|refine X.E ?_|refine X.F ?_|refine X.G ?_|refine X.H ?_|refine X.I ?_|fail)
    refine WL.call (Equal_any hN5 hC5) ?_
    rintro _ w6 ⟨rfl, hs6⟩
    have hbl36 := hbl5.trans (hs6.below w3.heap.size)
    have hbl16 : Below w1.heap.size w1 w6 := hbl3.trans (Below.mono hbl36 (by omega))
    repeat' (first|refine X.O ?_|refine X.A ?_|refine X.B ?_|refine X.C ?_|refine X.D ?_|refine X.E ?_|refine X.F ?_|refine X.G ?_|refine X.H ?_|refine X.I ?_|fail)
    first|refine X.J (fun _ => ?_) (fun _ => ?_)|refine X.L (fun _ => ?_) (fun _ => ?_)|refine X.M (fun _ => ?_) (fun _ => ?_)|refine X.R (fun _ => ?_) (fun _ => ?_)|fail
    · rename_i heq
      rw [← hnx] at heq
      repeat' (first|refine X.O ?_|refine X.A ?_|refine X.B ?_|refine X.C ?_|refine X.D ?_|refine X.E ?_|refine X.F ?_|refine X.G ?_|refine X.H ?_|refine X.I ?_|fail)
      refine ⟨_, ret1 rfl (by rfl), ?_⟩
      rw [hal, itN_fix heq]
      exact ⟨(hown3.below hbl36 (Nat.le_refl _)).lower hbl1.size, hbl1.trans (Below.mono hbl16 hbl1.size)⟩
    · rename_i hne
      rw [← hnx] at hne
      have hr2 := roots_lt hcls hne
      have hr3 := roots_le x.2.length (refineL x.1 cls)
      rw [hnx] at hr2 hr3
      repeat' (first|refine X.O ?_|refine X.A ?_|refine X.B ?_|refine X.C ?_|refine X.D ?_|refine X.E ?_|refine X.F ?_|refine X.G ?_|refine X.H ?_|refine X.I ?_|fail)
      refine ⟨(nx, vn, t + 1), ⟨rfl, rfl, trivial⟩, ⟨by rw [← hnx]; exact cls_refine _ hcl, by dsimp only; omega, ?_, by dsimp only; omega, (hown5.still hs6).lower (by omega), hbl16⟩, by dsimp only; omega⟩
      dsimp only
      rw [hal, show x.2.length - t = (x.2.length - (t + 1)) + 1 from by omega, itN, hnx]
end Go.Proofs
/- Alike stages, the reference's. -/
namespace Go.Proofs
open Go Go.Fw Go.RowKit Go.Rk
/-- What a call gives: a new slice of slices. -/
def _root_.Go.Fw.NewSS (e e2 : TypeId) (w : World) (r : Value) (w' : World) (xss : List (List Int)) : Prop := OwSS e e2 w.heap.size w'.heap.size w' r xss ∧ Below w.heap.size w w'
theorem _root_.Go.Fw.OwSSv.none {e e2 lo : Nat} {w : World} {v : Value} (hown : Own lo e w v []) (h : e ≠ e2) : OwSSv e e2 lo w.heap.size w v [] [] :=
  ⟨hown, fun k hk => (hown.block k hk).2, Nat.le_refl _, rfl, fun i u xs hu => by simp at hu, fun i j u u' _ hu => by simp at hu, h⟩
theorem l10Sums_any {lo hi lo' hi' : Nat} {w : World} {v v' : Value} {x : TabD} {cls : List Int} (h : IT lo hi w v x) (h' : IS lo' hi' w v' cls) (hx : Tab x) (hc : Cls x.2.length cls) :
    Does Tryz.prog 76 [v, v'] w fun r w' => NewSS 25 2 w r w' (x.1.map fun r => sumsL r cls) := by
  have hz := h.hi_le
  have hz' := h'.hi_le
  obtain ⟨va, vb, rfl, hA, hB⟩ := h
  obtain ⟨aa, ca, hva⟩ := hA.shape
  subst hva
  obtain ⟨ac, cc, hvc⟩ := h'.shape
  subst hvc
  have hm := hx.le8
  have hsq := hx.sq
  have hcl := hc.1
  obtain ⟨res, hres⟩ : ∃ res, (x.1.map fun r => sumsL r cls) = res := ⟨_, rfl⟩
  have hrl : res.length = x.1.length := by rw [← hres]; simp
  rw [hres]
  refine Does.enter Tryz.func76 Tryz.ntmps76 rfl (by rfl) ?_
  repeat' (first|refine X.O ?_|refine X.A ?_|refine X.B ?_|refine X.C ?_|refine X.D ?_|refine X.E ?_|refine X.F ?_|refine X.G ?_|refine X.H ?_|refine X.I ?_|fail)
  refine WL.step (o_box (by rfl) ?_)
  intro w1 hb1 hbl1 hz1
  repeat' (first|refine X.O ?_|refine X.A ?_|refine X.B ?_|refine X.C ?_|refine X.D ?_|refine X.E ?_|refine X.F ?_|refine X.G ?_|refine X.H ?_|refine X.I ?_|fail)
  refine WL.step (o_lit (us := []) (by rfl) (by rfl) rfl (by decide) one0 ?_)
  intro v2 w2 hown2 hbl2 hz2 _
  have hbl12 : Below w.heap.size w w2 := hbl1.trans (Below.mono hbl2 (by omega))
  have hC2 := h'.below RI.stable hbl12 hz'
  have hA2 := hA.below IS.stable hbl12 hz
  have hb2 := hb1.below hbl2 (by omega)
  repeat' (first|refine X.O ?_|refine X.A ?_|refine X.B ?_|refine X.C ?_|refine X.D ?_|refine X.E ?_|refine X.F ?_|refine X.G ?_|refine X.H ?_|refine X.I ?_|fail)
  refine WP.loop (fun (s : Nat × Value) => [(1, .slice ac cls.length cc), (2, .pointer (some ⟨w.heap.size, 0, none⟩)), (5, s.2), (6, .int .i64 (s.1 : Nat))])
    (fun s w3 => s.1 ≤ cls.length ∧ (∃ vs, OwSSv 25 2 w1.heap.size w3.heap.size w3 s.2 vs (res.take s.1)) ∧ Below w1.heap.size w2 w3)
    (fun s => cls.length - s.1) (0, v2) ⟨rfl, rfl, rfl, rfl, trivial⟩ ⟨by dsimp only; omega, ⟨[], by simpa using OwSSv.none hown2 (by decide)⟩, Below.refl _ _⟩ ?_
  rintro ⟨i, vo⟩ w3 ⟨hi1, ⟨vs, oA⟩, hbl3⟩
  dsimp only at hi1 oA ⊢
  have hz3 := hbl3.size
  repeat' (first|refine X.O ?_|refine X.A ?_|refine X.B ?_|refine X.C ?_|refine X.D ?_|refine X.E ?_|refine X.F ?_|refine X.G ?_|refine X.H ?_|refine X.I ?_|fail)
  first|refine X.J (fun _ => ?_) (fun _ => ?_)|refine X.L (fun _ => ?_) (fun _ => ?_)|refine X.M (fun _ => ?_) (fun _ => ?_)|refine X.R (fun _ => ?_) (fun _ => ?_)|fail
  · rename_i hlt
    have hli : i < cls.length := by omega
    have hlia : i < x.1.length := by omega
    have hrow := hx.row _ (List.getElem_mem hlia)
    have hC3 := hC2.below RI.stable hbl3 (by omega)
    have hA3 := hA2.below IS.stable hbl3 (by omega)
    have hb3 := hb2.below hbl3 (by omega)
    repeat' (first|refine X.O ?_|refine X.A ?_|refine X.B ?_|refine X.C ?_|refine X.D ?_|refine X.E ?_|refine X.F ?_|refine X.G ?_|refine X.H ?_|refine X.I ?_|fail)
    refine WL.step (o_make (n := cls.length) (by rfl) (by rfl) (by omega) (by unfold maxLen; omega) ?_)
    intro v4 w4 hown4 hbl4 hz4
    have e0 : List.replicate cls.length (Value.int .i64 0) = Ints (List.replicate cls.length 0) := by simp [Ints]
    rw [e0] at hown4
    repeat' (first|refine X.O ?_|refine X.A ?_|refine X.B ?_|refine X.C ?_|refine X.D ?_|refine X.E ?_|refine X.F ?_|refine X.G ?_|refine X.H ?_|refine X.I ?_|fail)
    refine WP.loop (fun (s : Nat × List Int) => [(1, .slice ac cls.length cc), (2, .pointer (some ⟨w.heap.size, 0, none⟩)), (5, vo), (6, .int .i64 (i : Nat)), (7, v4), (8, .int .i64 (s.1 : Nat))])
      (fun s w5 => s.1 ≤ cls.length ∧ s.2.length = cls.length ∧ allN s.2 = true ∧ sumsL x.1[i] cls = csGo s.2 (x.1[i].drop s.1) (cls.drop s.1) ∧ Own w3.heap.size 2 w5 v4 (Ints s.2) ∧ Below w3.heap.size w3 w5)
      (fun s => cls.length - s.1) (0, List.replicate cls.length 0) ⟨rfl, rfl, rfl, rfl, rfl, rfl, trivial⟩ ⟨by dsimp only; omega, by simp, allN_zeros _, rfl, hown4, hbl4⟩ ?_
    rintro ⟨k, out⟩ w5 ⟨hk, hol, hon, heq, hown5, hb5⟩
    dsimp only at hk hol hon heq hown5 ⊢
    have hz5 := hb5.size
    repeat' (first|refine X.O ?_|refine X.A ?_|refine X.B ?_|refine X.C ?_|refine X.D ?_|refine X.E ?_|refine X.F ?_|refine X.G ?_|refine X.H ?_|refine X.I ?_|fail)
    first|refine X.J (fun _ => ?_) (fun _ => ?_)|refine X.L (fun _ => ?_) (fun _ => ?_)|refine X.M (fun _ => ?_) (fun _ => ?_)|refine X.R (fun _ => ?_) (fun _ => ?_)|fail
    · rename_i hltk
      have hlc : k < cls.length := by omega
      have hlr : k < x.1[i].length := by have := hrow.1; omega
      have hcb := hc.get hlc
      have hlo : cls[k].toNat < out.length := by omega
      have hrb := allN_get hrow.2 hlr
      have hob := allN_get hon hlo
      rw [csGo_drop hlr hlc, List.getElem?_eq_getElem hlo, Option.getD_some] at heq
      repeat' (first|refine X.O ?_|refine X.A ?_|refine X.B ?_|refine X.C ?_|refine X.D ?_|refine X.E ?_|refine X.F ?_|refine X.G ?_|refine X.H ?_|refine X.I ?_|fail)
      refine WP.drawn (fun w' => w'.heap = w5.heap) [(0, true), (1, true), (2, true), (3, true), (4, true), (5, true), (6, true), (7, true), (8, true), (9, true), (10, true), (11, true), (12, true), (13, true), (14, true), (15, true), (16, true), (17, true), (18, true), (19, true), (20, false), (21, true), (1022, false)] (by kernel_rfl) mixed ?_
      intro w6 hs6
      have hw6 : w6.heap = w5.heap := hs6.heap
      have hC6 := (hC3.below RI.stable hb5 (by omega)).still RI.stable hs6
      have hA6 := (hA3.below IS.stable hb5 (by omega)).still IS.stable hs6
      have hb6 := (hb3.below hb5 (by omega)).still hs6
      have hown6 := hown5.still hs6
      repeat' (first|refine X.U rfl ?_|refine X.V rfl ?_|refine X.W rfl ?_|refine X.Y rfl ?_|refine X.Z rfl ?_|refine WS.nil ?_|fail)
      refine WS.ixload rfl rfl hC6 (List.getElem?_eq_getElem hlc) (fun w' hw' => same_heap (hw'.trans hw6.symm)) hw6 ?_
      rintro p2 _ rfl
      repeat' (first|refine X.U rfl ?_|refine X.V rfl ?_|refine X.W rfl ?_|refine X.Y rfl ?_|refine X.Z rfl ?_|refine WS.nil ?_|fail)
      refine WS.ixload rfl rfl hC6 (List.getElem?_eq_getElem hlc) (fun w' hw' => same_heap (hw'.trans hw6.symm)) hw6 ?_
      rintro p3 _ rfl
      refine WS.ixload (j := cls[k].toNat) rfl rfl (Own.is hown6) (List.getElem?_eq_getElem hlo) (fun w' hw' => same_heap (hw'.trans hw6.symm)) hw6 ?_
      rintro p4 _ rfl
      refine WS.fld rfl rfl (fun w' h => hb6.keep (by rw [h, hw6])) hw6 ?_
      intro p5
      repeat' (first|refine X.U rfl ?_|refine X.V rfl ?_|refine X.W rfl ?_|refine X.Y rfl ?_|refine X.Z rfl ?_|refine WS.nil ?_|fail)
      refine WS.ixload rfl rfl hA6 (List.getElem?_eq_getElem hlia) (fun w' hw' => same_heap (hw'.trans hw6.symm)) hw6 ?_
      intro p6 u hu
      repeat' (first|refine X.U rfl ?_|refine X.V rfl ?_|refine X.W rfl ?_|refine X.Y rfl ?_|refine X.Z rfl ?_|refine WS.nil ?_|fail)
      refine WS.ixload rfl rfl hu (List.getElem?_eq_getElem hlr) (fun w' hw' => same_heap (hw'.trans hw6.symm)) hw6 ?_
      rintro p7 _ rfl
      refine WS.call rfl (l01Add_any out[cls[k].toNat] x.1[i][k] _ (by unfold InI; omega)) ?_
      rintro _ _ ⟨rfl, rfl⟩
      refine ⟨hw6, ?_⟩
      refine WS.ixstore (j := cls[k].toNat) rfl rfl hw6 hown6 (by rw [Ints_length]; exact hlo) ?_
      intro p8 w7 hown7 hbl7 hz7 _
      rw [Ints_set] at hown7
      refine WS.nil ?_
      repeat' (first|refine X.O ?_|refine X.A ?_|refine X.B ?_|refine X.C ?_|refine X.D ?_|refine X.E ?_|refine X.F ?_|refine X.G ?_|refine X.H ?_|refine X.I ?_|fail)
      exact ⟨(k + 1, out.set cls[k].toNat (nm (out[cls[k].toNat] + x.1[i][k]))), ⟨rfl, rfl, rfl, rfl, rfl, (by first|rfl|exact X.T (by omega)), trivial⟩, ⟨by dsimp only; omega, by rw [List.length_set]; exact hol, allN_set hon _ _ (nm_isN _), heq, hown7, (hb5.trans (hs6.below _)).trans hbl7⟩, by dsimp only; omega⟩
    · rename_i hge
      rw [csGo_end (by omega)] at heq
      have oA5 := oA.chg (Chg.of_below hb5) (by omega)
      have hvl : vs.length = i := by rw [oA.len, List.length_take]; omega
      obtain ⟨a5, c5, hv5, _⟩ := hown5.shape
      repeat' (first|refine X.O ?_|refine X.A ?_|refine X.B ?_|refine X.C ?_|refine X.D ?_|refine X.E ?_|refine X.F ?_|refine X.G ?_|refine X.H ?_|refine X.I ?_|fail)
      refine o_append1 (u := v4) (fun _ => by rfl) (by rfl) oA5.own (by rw [hv5]; rfl) (by simp [hvl, maxLen]; omega) (by simp [hvl]; omega) (by omega) ?_
      intro p9 v8 w8 hown8 hbl8 hf8 hz8 _
      have sn := oA5.snoc (⟨hown5, fun k hk => (hown5.block k hk).2, Nat.le_refl _⟩ : OwI _ _ _ _ _ _) (Nat.le_refl _) (by omega) hown8 (by omega) hf8
      repeat' (first|refine X.O ?_|refine X.A ?_|refine X.B ?_|refine X.C ?_|refine X.D ?_|refine X.E ?_|refine X.F ?_|refine X.G ?_|refine X.H ?_|refine X.I ?_|fail)
      refine ⟨(i + 1, v8), ⟨rfl, rfl, rfl, (by first|rfl|exact X.T (by omega)), trivial⟩, ⟨by dsimp only; omega, ⟨vs ++ [v4], ?_⟩, (hbl3.trans (Below.mono hb5 (by omega))).trans hbl8⟩, by dsimp only; omega⟩
      have e : res.take (i + 1) = res.take i ++ [out] := take_snoc (by omega) (by subst hres; rw [List.getElem_map]; exact heq)
      dsimp only
      rw [e]
      exact sn
  · rename_i hge
    have hie : i = cls.length := by omega
    subst hie
    rw [List.take_of_length_le (by omega)] at oA
    repeat' (first|refine X.O ?_|refine X.A ?_|refine X.B ?_|refine X.C ?_|refine X.D ?_|refine X.E ?_|refine X.F ?_|refine X.G ?_|refine X.H ?_|refine X.I ?_|fail)
    refine ⟨_, ret1 rfl (by rfl), ?_⟩
    exact ⟨⟨vs, oA.wide (by omega) (Nat.le_refl _) (Nat.le_refl _)⟩, hbl12.trans (Below.mono hbl3 (by omega))⟩
theorem l10Alike_any {lo hi : Nat} {w : World} {v : Value} {x : TabD} (h : IT lo hi w v x) (hx : Tab x) :
    Does Tryz.prog 75 [v] w fun r w' => NewI w r w' (alikeL x) := by
  have hz := h.hi_le
  obtain ⟨va, vb, rfl, hA, hB⟩ := h
  obtain ⟨ab, cb, hvb⟩ := hB.shape
  subst hvb
  have hT : IT lo hi w (.agg #[va, .slice ab x.2.length cb]) x := ⟨_, _, rfl, hA, hB⟩
  have hm := hx.le8
  have hp := hx.pos
  have hsq := hx.sq
  refine Does.enter Tryz.func75 Tryz.ntmps75 rfl (by rfl) ?_
  repeat' (first|refine X.O ?_|refine X.A ?_|refine X.B ?_|refine X.C ?_|refine X.D ?_|refine X.E ?_|refine X.F ?_|refine X.G ?_|refine X.H ?_|refine X.I ?_|fail)
  refine WL.step (o_box (by rfl) ?_)
  intro w1 hb1 hbl1 hz1
  replace hT := hT.below hbl1 hz
  repeat' (first|refine X.O ?_|refine X.A ?_|refine X.B ?_|refine X.C ?_|refine X.D ?_|refine X.E ?_|refine X.F ?_|refine X.G ?_|refine X.H ?_|refine X.I ?_|fail)
  refine WL.fld hb1 ?_
  intro p0
  repeat' (first|refine X.O ?_|refine X.A ?_|refine X.B ?_|refine X.C ?_|refine X.D ?_|refine X.E ?_|refine X.F ?_|refine X.G ?_|refine X.H ?_|refine X.I ?_|fail)
  refine WL.step (o_make (n := x.2.length) (by rfl) (by rfl) (by omega) (by unfold maxLen; omega) ?_)
  intro v2 w2 hown2 hbl2 hz2
  have e0 : List.replicate x.2.length (Value.int .i64 0) = Ints (List.replicate x.2.length 0) := by simp [Ints]
  rw [e0] at hown2
  repeat' (first|refine X.O ?_|refine X.A ?_|refine X.B ?_|refine X.C ?_|refine X.D ?_|refine X.E ?_|refine X.F ?_|refine X.G ?_|refine X.H ?_|refine X.I ?_|fail)
  refine WP.loop (fun (s : List Int × Value × Nat) => [(1, .pointer (some ⟨w.heap.size, 0, none⟩)), (3, s.2.1), (4, .int .i64 (s.2.2 : Nat))])
    (fun s w3 => Cls x.2.length s.1 ∧ s.2.2 ≤ x.2.length ∧ alikeL x = itN x.1 s.1 (x.2.length - s.2.2) ∧ Own w1.heap.size 2 w3 s.2.1 (Ints s.1) ∧ Below w1.heap.size w1 w3)
    (fun s => x.2.length - s.2.2) (List.replicate x.2.length 0, v2, 0) ⟨rfl, rfl, rfl, trivial⟩ ⟨cls_zero _, by dsimp only; omega, rfl, hown2, hbl2⟩ ?_
  rintro ⟨cls, vc, t⟩ w3 ⟨hcls, ht, hal, hown3, hbl3⟩
  dsimp only at hcls ht hal hown3 ⊢
  have hz3 := hbl3.size
  have hcl := hcls.1
  have hC3 := Own.is hown3
  obtain ⟨ac, cc, hvc⟩ := hC3.shape
  subst hvc
  have hb3 := hb1.below hbl3 (by omega)
  have hT3 := hT.below hbl3 (by omega)
  repeat' (first|refine X.O ?_|refine X.A ?_|refine X.B ?_|refine X.C ?_|refine X.D ?_|refine X.E ?_|refine X.F ?_|refine X.G ?_|refine X.H ?_|refine X.I ?_|fail)
  refine WL.fld hb3 ?_
  intro p1
  repeat' (first|refine X.O ?_|refine X.A ?_|refine X.B ?_|refine X.C ?_|refine X.D ?_|refine X.E ?_|refine X.F ?_|refine X.G ?_|refine X.H ?_|refine X.I ?_|fail)
  first|refine X.J (fun _ => ?_) (fun _ => ?_)|refine X.L (fun _ => ?_) (fun _ => ?_)|refine X.M (fun _ => ?_) (fun _ => ?_)|refine X.R (fun _ => ?_) (fun _ => ?_)|fail
  · rename_i hltt
    repeat' (first|refine X.O ?_|refine X.A ?_|refine X.B ?_|refine X.C ?_|refine X.D ?_|refine X.E ?_|refine X.F ?_|refine X.G ?_|refine X.H ?_|refine X.I ?_|fail)
    refine WL.step (o_loadS (by rfl) hb3 (by rfl) ?_)
    repeat' (first|refine X.O ?_|refine X.A ?_|refine X.B ?_|refine X.C ?_|refine X.D ?_|refine X.E ?_|refine X.F ?_|refine X.G ?_|refine X.H ?_|refine X.I ?_|fail)
    refine WL.call (l10Sums_any hT3 hC3 hx hcls) ?_
    rintro v4 w4 ⟨oS, hbl4⟩
    have hz4 := hbl4.size
    obtain ⟨sa, cs', hvs⟩ := oS.rd.shape
    subst hvs
    refine WL.step (o_lit (us := []) (by rfl) (by rfl) rfl (by decide) one0 ?_)
    intro v5 w5 hown5 hbl5 hz5 _
    repeat' (first|refine X.O ?_|refine X.A ?_|refine X.B ?_|refine X.C ?_|refine X.D ?_|refine X.E ?_|refine X.F ?_|refine X.G ?_|refine X.H ?_|refine X.I ?_|fail)
    have hS5 := (oS.chg (Chg.of_below hbl5) (by omega)).rd
    have hbl35 : Below w3.heap.size w3 w5 := hbl4.trans (Below.mono hbl5 (by omega))
    have hC5 := hC3.below RI.stable hbl35 (Nat.le_refl _)
    have hrl := refineL_length x.1 cls
    obtain ⟨nx, hnx⟩ : ∃ nx, refineL x.1 cls = nx := ⟨_, rfl⟩
    obtain ⟨sm, hsm⟩ : ∃ sm, (x.1.map fun r => sumsL r cls) = sm := ⟨_, rfl⟩
    have hsml : sm.length = x.1.length := by rw [← hsm]; simp
    rw [hnx] at hrl
    rw [hsm] at hS5 ⊢
    refine WP.loop (fun (s : Nat × Value) => [(1, .pointer (some ⟨w.heap.size, 0, none⟩)), (3, .slice ac cls.length cc), (4, .int .i64 (t : Nat)), (5, .slice sa sm.length cs'), (6, s.2), (7, .int .i64 (s.1 : Nat))])
      (fun s w6 => s.1 ≤ cls.length ∧ Own w4.heap.size 2 w6 s.2 (Ints (nx.take s.1)) ∧ Below w4.heap.size w5 w6)
      (fun s => cls.length - s.1) (0, v5) ⟨rfl, rfl, rfl, rfl, rfl, rfl, trivial⟩ ⟨by dsimp only; omega, by simpa [Ints] using hown5, Below.refl _ _⟩ ?_
    rintro ⟨i, vn⟩ w6 ⟨hi1, hown6, hbl6⟩
    dsimp only at hi1 hown6 ⊢
    have hz6 := hbl6.size
    repeat' (first|refine X.O ?_|refine X.A ?_|refine X.B ?_|refine X.C ?_|refine X.D ?_|refine X.E ?_|refine X.F ?_|refine X.G ?_|refine X.H ?_|refine X.I ?_|fail)
    first|refine X.J (fun _ => ?_) (fun _ => ?_)|refine X.L (fun _ => ?_) (fun _ => ?_)|refine X.M (fun _ => ?_) (fun _ => ?_)|refine X.R (fun _ => ?_) (fun _ => ?_)|fail
    · rename_i hlt
      have hli : i < cls.length := by omega
      have hlia : i < x.1.length := by omega
      have hC6 := hC5.below RI.stable hbl6 (by omega)
      have hS6 := hS5.below IS.stable hbl6 (by omega)
      repeat' (first|refine X.O ?_|refine X.A ?_|refine X.B ?_|refine X.C ?_|refine X.D ?_|refine X.E ?_|refine X.F ?_|refine X.G ?_|refine X.H ?_|refine X.I ?_|fail)
      refine WP.loop (fun (s : Nat × Nat) => [(1, .pointer (some ⟨w.heap.size, 0, none⟩)), (3, .slice ac cls.length cc), (4, .int .i64 (t : Nat)), (5, .slice sa sm.length cs'), (6, vn), (7, .int .i64 (i : Nat)), (8, .int .i64 (s.2 : Nat)), (9, .int .i64 ((s.1 : Nat) - 1))])
        (fun s w7 => s.1 ≤ i ∧ s.1 ≤ s.2 ∧ s.2 ≤ i ∧ matchC x.1 cls s.2 i = true ∧ (∀ j, s.1 ≤ j → j < s.2 → matchC x.1 cls j i = false) ∧ Still w6 w7)
        (fun s => s.1) (i, i) ⟨rfl, rfl, rfl, rfl, rfl, rfl, rfl, rfl, trivial⟩ ⟨Nat.le_refl _, Nat.le_refl _, Nat.le_refl _, matchC_self _ _ _, fun j h1 h2 => by dsimp only at h1 h2; omega, Still.refl _⟩ ?_
      rintro ⟨m, q⟩ w7 ⟨hm1, hm2, hm3, hmt, hnom, hs7⟩
      dsimp only at hm1 hm2 hm3 hmt hnom ⊢
      repeat' (first|refine X.O ?_|refine X.A ?_|refine X.B ?_|refine X.C ?_|refine X.D ?_|refine X.E ?_|refine X.F ?_|refine X.G ?_|refine X.H ?_|refine X.I ?_|fail)
      first|refine X.J (fun _ => ?_) (fun _ => ?_)|refine X.L (fun _ => ?_) (fun _ => ?_)|refine X.M (fun _ => ?_) (fun _ => ?_)|refine X.R (fun _ => ?_) (fun _ => ?_)|fail
      · rename_i hge0
        have hmpos : 1 ≤ m := by omega
        have hlk : m - 1 < cls.length := by omega
        have hlka : m - 1 < x.1.length := by omega
        have hmk := matchC_eq hlka hlia hlk hli
        have hks : sm[m - 1]'(by omega) = sumsL x.1[m - 1] cls := by subst hsm; rw [List.getElem_map]
        have his : sm[i]'(by omega) = sumsL x.1[i] cls := by subst hsm; rw [List.getElem_map]
        rw [← hks, ← his] at hmk
        repeat' (first|refine X.O ?_|refine X.A ?_|refine X.B ?_|refine X.C ?_|refine X.D ?_|refine X.E ?_|refine X.F ?_|refine X.G ?_|refine X.H ?_|refine X.I ?_|fail)
        refine WP.drawn (fun w' => w'.heap = w7.heap) [(0, true), (1, true), (2, true), (3, true), (4, true), (5, true), (6, true), (7, true), (8, true), (9, true), (10, true), (11, true), (12, true), (13, true), (14, true), (15, true), (16, true), (17, true), (18, false), (19, true)] (by kernel_rfl) mixed ?_
        intro w8 hs8
        have hw8 : w8.heap = w7.heap := hs8.heap
        have hC8 := hC6.still RI.stable (hs7.trans hs8)
        have hS8 := hS6.still IS.stable (hs7.trans hs8)
        repeat' (first|refine X.U rfl ?_|refine X.V rfl ?_|refine X.W rfl ?_|refine X.Y rfl ?_|refine X.Z rfl ?_|refine WS.nil ?_|fail)
        refine WS.ixload (j := m - 1) rfl rfl hC8 (List.getElem?_eq_getElem hlk) (fun w' hw' => same_heap (hw'.trans hw8.symm)) hw8 ?_
        rintro p2 _ rfl
        repeat' (first|refine X.U rfl ?_|refine X.V rfl ?_|refine X.W rfl ?_|refine X.Y rfl ?_|refine X.Z rfl ?_|refine WS.nil ?_|fail)
        refine WS.ixload rfl rfl hC8 (List.getElem?_eq_getElem hli) (fun w' hw' => same_heap (hw'.trans hw8.symm)) hw8 ?_
        rintro p3 _ rfl
        repeat' (first|refine X.U rfl ?_|refine X.V rfl ?_|refine X.W rfl ?_|refine X.Y rfl ?_|refine X.Z rfl ?_|refine WS.nil ?_|fail)
        refine WS.splitD (t := 47) (by rfl) (fun heq => ?_) (fun hne => ?_)
        · rw [decide_eq_true heq, Bool.true_and] at hmk
          repeat' (first|refine X.U rfl ?_|refine X.V rfl ?_|refine X.W rfl ?_|refine X.Y rfl ?_|refine X.Z rfl ?_|refine WS.nil ?_|fail)
          refine WS.ixload (j := m - 1) rfl rfl hS8 (List.getElem?_eq_getElem (by omega)) (fun w' hw' => same_heap (hw'.trans hw8.symm)) hw8 ?_
          intro p4 uk huk
          repeat' (first|refine X.U rfl ?_|refine X.V rfl ?_|refine X.W rfl ?_|refine X.Y rfl ?_|refine X.Z rfl ?_|refine WS.nil ?_|fail)
          refine WS.ixload (j := i) rfl rfl hS8 (List.getElem?_eq_getElem (by omega)) (fun w' hw' => same_heap (hw'.trans hw8.symm)) hw8 ?_
          intro p5 ui hui
          refine WS.call rfl (l01Same_any huk hui) ?_
          rintro _ w9 ⟨rfl, hs9⟩
          have hw9 : w9.heap = w7.heap := hs9.heap.trans hw8
          have hs69 := (hs7.trans hs8).trans hs9
          refine ⟨hw9, ?_⟩
          rw [← hmk]
          repeat' (first|refine X.U rfl ?_|refine X.V rfl ?_|refine X.W rfl ?_|refine X.Y rfl ?_|refine X.Z rfl ?_|refine WS.nil ?_|fail)
          repeat' (first|refine X.O ?_|refine X.A ?_|refine X.B ?_|refine X.C ?_|refine X.D ?_|refine X.E ?_|refine X.F ?_|refine X.G ?_|refine X.H ?_|refine X.I ?_|fail)
          first|refine X.J (fun _ => ?_) (fun _ => ?_)|refine X.L (fun _ => ?_) (fun _ => ?_)|refine X.M (fun _ => ?_) (fun _ => ?_)|refine X.R (fun _ => ?_) (fun _ => ?_)|fail
          · rename_i htm
            repeat' (first|refine X.O ?_|refine X.A ?_|refine X.B ?_|refine X.C ?_|refine X.D ?_|refine X.E ?_|refine X.F ?_|refine X.G ?_|refine X.H ?_|refine X.I ?_|fail)
            exact ⟨(m - 1, m - 1), ⟨rfl, rfl, rfl, rfl, rfl, rfl, (by first|rfl|exact X.T (by omega)), (by first|rfl|exact X.T (by omega)), trivial⟩, ⟨by dsimp only; omega, Nat.le_refl _, by dsimp only; omega, htm, fun j h1 h2 => by dsimp only at h1 h2; omega, hs69⟩, by dsimp only; omega⟩
          · rename_i hfm
            have hfm' : matchC x.1 cls (m - 1) i = false := hfm
            repeat' (first|refine X.O ?_|refine X.A ?_|refine X.B ?_|refine X.C ?_|refine X.D ?_|refine X.E ?_|refine X.F ?_|refine X.G ?_|refine X.H ?_|refine X.I ?_|fail)
            refine ⟨(m - 1, q), ⟨rfl, rfl, rfl, rfl, rfl, rfl, rfl, (by first|rfl|exact X.T (by omega)), trivial⟩, ⟨by dsimp only; omega, by dsimp only; omega, hm3, hmt, fun j h1 h2 => ?_, hs69⟩, by dsimp only; omega⟩
            dsimp only at h1 h2
            by_cases hj : j = m - 1
            · rw [hj]; exact hfm'
            · exact hnom j (by omega) h2
        · have hfm' : matchC x.1 cls (m - 1) i = false := by rw [hmk, decide_eq_false hne]; rfl
          repeat' (first|refine X.U rfl ?_|refine X.V rfl ?_|refine X.W rfl ?_|refine X.Y rfl ?_|refine X.Z rfl ?_|refine WS.nil ?_|fail)
          refine WS.op rfl (OpW.pass (by rfl) ⟨hw8, ?_⟩)
          repeat' (first|refine X.U rfl ?_|refine X.V rfl ?_|refine X.W rfl ?_|refine X.Y rfl ?_|refine X.Z rfl ?_|refine WS.nil ?_|fail)
          repeat' (first|refine X.O ?_|refine X.A ?_|refine X.B ?_|refine X.C ?_|refine X.D ?_|refine X.E ?_|refine X.F ?_|refine X.G ?_|refine X.H ?_|refine X.I ?_|fail)
          refine ⟨(m - 1, q), ⟨rfl, rfl, rfl, rfl, rfl, rfl, rfl, (by first|rfl|exact X.T (by omega)), trivial⟩, ⟨by dsimp only; omega, by dsimp only; omega, hm3, hmt, fun j h1 h2 => ?_, hs7.trans hs8⟩, by dsimp only; omega⟩
          dsimp only at h1 h2
          by_cases hj : j = m - 1
          · rw [hj]; exact hfm'
          · exact hnom j (by omega) h2
      · rename_i hneg
        have hleast : leastC x.1 cls i = q := leastN_eq hm3 hmt (fun j hj => hnom j (by omega) hj)
        have hz7 := hs7.size
        repeat' (first|refine X.O ?_|refine X.A ?_|refine X.B ?_|refine X.C ?_|refine X.D ?_|refine X.E ?_|refine X.F ?_|refine X.G ?_|refine X.H ?_|refine X.I ?_|fail)
        refine o_append1 (u := .int .i64 _) (fun _ => by rfl) (by rfl) (hown6.still hs7) rfl (by simp [Ints, hrl, maxLen]; omega) (by simp [Ints, hrl]; omega) (by omega) ?_
        intro p7 v11 w11 hown11 hb11 _ _ _
        repeat' (first|refine X.O ?_|refine X.A ?_|refine X.B ?_|refine X.C ?_|refine X.D ?_|refine X.E ?_|refine X.F ?_|refine X.G ?_|refine X.H ?_|refine X.I ?_|fail)
        refine ⟨(i + 1, v11), ⟨rfl, rfl, rfl, rfl, rfl, (by first|rfl|exact X.T (by omega)), trivial⟩, ⟨by dsimp only; omega, ?_, (hbl6.trans (hs7.below _)).trans hb11⟩, by dsimp only; omega⟩
        dsimp only
        rw [← Ints_snoc (show i < nx.length by omega) (y := ((q : Nat) : Int)) (by subst hnx; rw [refineL_get, hleast])]
        exact hown11
    · rename_i hge
      have hie : i = cls.length := by omega
      subst hie
      rw [List.take_of_length_le (by omega)] at hown6
      repeat' (first|refine X.O ?_|refine X.A ?_|refine X.B ?_|refine X.C ?_|refine X.D ?_|refine X.E ?_|refine X.F ?_|refine X.G ?_|refine X.H ?_|refine X.I ?_|fail)
      refine ⟨(nx, vn, t + 1), ⟨rfl, rfl, (by first|rfl|exact X.T (by omega)), trivial⟩, ⟨by rw [← hnx]; exact cls_refine _ hcl, by dsimp only; omega, ?_, hown6.lower (by omega), ((hbl3.trans (Below.mono hbl35 (by omega))).trans (Below.mono hbl6 (by omega)))⟩, by dsimp only; omega⟩
      dsimp only
      rw [hal, show x.2.length - t = (x.2.length - (t + 1)) + 1 from by omega, itN, hnx]
  · rename_i hget
    have htn : t = x.2.length := by omega
    subst htn
    rw [Nat.sub_self] at hal
    repeat' (first|refine X.O ?_|refine X.A ?_|refine X.B ?_|refine X.C ?_|refine X.D ?_|refine X.E ?_|refine X.F ?_|refine X.G ?_|refine X.H ?_|refine X.I ?_|fail)
    refine ⟨_, ret1 rfl (by rfl), ?_⟩
    rw [hal]
    exact ⟨hown3.lower (by omega), hbl1.trans (Below.mono hbl3 (by omega))⟩
theorem AlikeStages_any {lo hi : Nat} {w : World} {v : Value} {x : TabD} (h : IT lo hi w v x) : Does Tryz.prog 12 [v] w fun r w' => ResI w r w' (alikeStages x) := by
  have hz := h.hi_le
  obtain ⟨va, vb, rfl, hA, hB⟩ := h
  have hT : IT lo hi w (.agg #[va, vb]) x := ⟨_, _, rfl, hA, hB⟩
  refine Does.enter Tryz.func12 Tryz.ntmps12 rfl (by rfl) ?_
  repeat' (first|refine X.O ?_|refine X.A ?_|refine X.B ?_|refine X.C ?_|refine X.D ?_|refine X.E ?_|refine X.F ?_|refine X.G ?_|refine X.H ?_|refine X.I ?_|fail)
  refine WL.step (o_box (by rfl) ?_)
  intro w1 hb1 hbl1 hz1
  replace hT := hT.below hbl1 hz
  repeat' (first|refine X.O ?_|refine X.A ?_|refine X.B ?_|refine X.C ?_|refine X.D ?_|refine X.E ?_|refine X.F ?_|refine X.G ?_|refine X.H ?_|refine X.I ?_|fail)
  refine WL.step (o_loadS (by rfl) hb1 (by rfl) ?_)
  refine WL.call (IsTableau_any hT) ?_
  rintro _ w2 ⟨rfl, hc2⟩
  have hz2 := hc2.size
  have hbl2 : Below w.heap.size w w2 := hbl1.trans (hc2.below (by omega) (by omega))
  replace hT := hT.chg hc2 (by omega)
  replace hb1 := hb1.chg0 hc2
  unfold alikeStages
  repeat' (first|refine X.O ?_|refine X.A ?_|refine X.B ?_|refine X.C ?_|refine X.D ?_|refine X.E ?_|refine X.F ?_|refine X.G ?_|refine X.H ?_|refine X.I ?_|fail)
  first|refine X.J (fun _ => ?_) (fun _ => ?_)|refine X.L (fun _ => ?_) (fun _ => ?_)|refine X.M (fun _ => ?_) (fun _ => ?_)|refine X.R (fun _ => ?_) (fun _ => ?_)|fail
  · rename_i hbad
    repeat' (first|refine X.O ?_|refine X.A ?_|refine X.B ?_|refine X.C ?_|refine X.D ?_|refine X.E ?_|refine X.F ?_|refine X.G ?_|refine X.H ?_|refine X.I ?_|fail)
    refine ⟨_, ret2 rfl (by rfl) (by rfl), ?_⟩
    rw [hbad]
    exact ResI.none w w2 hbl2 1
  · rename_i hok
    rw [if_pos hok]
    repeat' (first|refine X.O ?_|refine X.A ?_|refine X.B ?_|refine X.C ?_|refine X.D ?_|refine X.E ?_|refine X.F ?_|refine X.G ?_|refine X.H ?_|refine X.I ?_|fail)
    refine WL.step (o_loadS (by rfl) hb1 (by rfl) ?_)
    refine WL.call (alike_any hT (isTab_iff hok)) ?_
    intro v3 w3 hN
    repeat' (first|refine X.O ?_|refine X.A ?_|refine X.B ?_|refine X.C ?_|refine X.D ?_|refine X.E ?_|refine X.F ?_|refine X.G ?_|refine X.H ?_|refine X.I ?_|fail)
    refine ⟨_, ret2 rfl (by rfl) (by rfl), ?_⟩
    exact ⟨_, rfl, hN.trans hbl2⟩
end Go.Proofs
