/- Alike stages: equality of lists, the sums of a row class by class. -/
import Derived.Test.YtncilhecdihmeaaA5
import Derived.Test.YtncilhecdihmeaaHB
import Derived.Test.YtncilhecdihmeaaPlA
import Derived.Test.YtncilhecdihmeaaT1
namespace Go.Proofs
open Go Go.Fw Go.RowKit Go.Rk

theorem l01Same_any {lo hi lo' hi' : Nat} {w : World} {v v' : Value} {xs ys : List Int} (h : IS lo hi w v xs) (h' : IS lo' hi' w v' ys) :
    Does Try.prog 95 [v, v'] w fun r w' => r = .bool (decide (xs = ys)) ∧ Still w w' := by
  obtain ⟨a, c, hv⟩ := h.shape
  obtain ⟨a', c', hv'⟩ := h'.shape
  rw [hv] at h ⊢
  rw [hv'] at h' ⊢
  have hm := h.len
  unfold maxLen at hm
  refine Does.enter Try.func95 Try.ntmps95 rfl (by rfl) ?_
  repeat' (first|refine X.O ?_|refine X.A ?_|refine X.B ?_|refine X.C ?_|refine X.D ?_|refine X.E ?_|refine X.F ?_|refine X.G ?_|refine X.H ?_|refine X.I ?_|fail)
  first|refine X.J (fun _ => ?_) (fun _ => ?_)|refine X.L (fun _ => ?_) (fun _ => ?_)|refine X.M (fun _ => ?_) (fun _ => ?_)|refine X.R (fun _ => ?_) (fun _ => ?_)|fail
  · rename_i hne
    repeat' (first|refine X.O ?_|refine X.A ?_|refine X.B ?_|refine X.C ?_|refine X.D ?_|refine X.E ?_|refine X.F ?_|refine X.G ?_|refine X.H ?_|refine X.I ?_|fail)
    refine ⟨_, ret1 rfl (by rfl), ?_⟩
    refine ⟨?_, Still.refl _⟩
    rw [decide_eq_false (fun e => hne (by rw [e]))]
  · rename_i heq
    have hl : xs.length = ys.length := by omega
    repeat' (first|refine X.O ?_|refine X.A ?_|refine X.B ?_|refine X.C ?_|refine X.D ?_|refine X.E ?_|refine X.F ?_|refine X.G ?_|refine X.H ?_|refine X.I ?_|fail)
    refine WP.loop (fun k => [(0, .slice a xs.length c), (1, .slice a' ys.length c'), (5, .int .i64 (k : Nat))]) (fun k w2 => k ≤ xs.length ∧ xs.take k = ys.take k ∧ Still w w2)
      (fun k => xs.length - k) 0 ⟨rfl, rfl, rfl, trivial⟩ ⟨by omega, by simp, Still.refl _⟩ ?_
    rintro k w2 ⟨hk, hkeq, hs2⟩
    repeat' (first|refine X.O ?_|refine X.A ?_|refine X.B ?_|refine X.C ?_|refine X.D ?_|refine X.E ?_|refine X.F ?_|refine X.G ?_|refine X.H ?_|refine X.I ?_|fail)
    first|refine X.J (fun _ => ?_) (fun _ => ?_)|refine X.L (fun _ => ?_) (fun _ => ?_)|refine X.M (fun _ => ?_) (fun _ => ?_)|refine X.R (fun _ => ?_) (fun _ => ?_)|fail
    · rename_i hlt
      have hlt' : k < xs.length := by omega
      have hlt2 : k < ys.length := by omega
      repeat' (first|refine X.O ?_|refine X.A ?_|refine X.B ?_|refine X.C ?_|refine X.D ?_|refine X.E ?_|refine X.F ?_|refine X.G ?_|refine X.H ?_|refine X.I ?_|fail)
      refine WP.drawn (fun w' => w'.heap = w2.heap) [(0, true), (1, true), (2, true), (3, true), (4, true), (5, true), (6, true), (7, true), (8, true)] (by kernel_rfl) mixed ?_
      intro w3 hs3
      have hw3 : w3.heap = w2.heap := hs3.heap
      have ha := (h.still RI.stable hs2).still RI.stable hs3
      have hb := (h'.still RI.stable hs2).still RI.stable hs3
      repeat' (first|refine X.U rfl ?_|refine X.V rfl ?_|refine X.W rfl ?_|refine X.Y rfl ?_|refine X.Z rfl ?_|refine WS.nil ?_|fail)
      refine WS.ixload rfl rfl ha (List.getElem?_eq_getElem hlt') (fun w' hw' => same_heap (hw'.trans hw3.symm)) hw3 ?_
      rintro p _ rfl
      repeat' (first|refine X.U rfl ?_|refine X.V rfl ?_|refine X.W rfl ?_|refine X.Y rfl ?_|refine X.Z rfl ?_|refine WS.nil ?_|fail)
      refine WS.ixload rfl rfl hb (List.getElem?_eq_getElem hlt2) (fun w' hw' => same_heap (hw'.trans hw3.symm)) hw3 ?_
      rintro p1 _ rfl
      repeat' (first|refine X.U rfl ?_|refine X.V rfl ?_|refine X.W rfl ?_|refine X.Y rfl ?_|refine X.Z rfl ?_|refine WS.nil ?_|fail)
      repeat' (first|refine X.O ?_|refine X.A ?_|refine X.B ?_|refine X.C ?_|refine X.D ?_|refine X.E ?_|refine X.F ?_|refine X.G ?_|refine X.H ?_|refine X.I ?_|fail)
      first|refine X.J (fun _ => ?_) (fun _ => ?_)|refine X.L (fun _ => ?_) (fun _ => ?_)|refine X.M (fun _ => ?_) (fun _ => ?_)|refine X.R (fun _ => ?_) (fun _ => ?_)|fail
      · rename_i hd
        repeat' (first|refine X.O ?_|refine X.A ?_|refine X.B ?_|refine X.C ?_|refine X.D ?_|refine X.E ?_|refine X.F ?_|refine X.G ?_|refine X.H ?_|refine X.I ?_|fail)
        refine ⟨_, ret1 rfl (by rfl), ?_⟩
        refine ⟨?_, hs2.trans hs3⟩
        rw [decide_eq_false (fun e => hd (by subst e; rfl))]
      · rename_i hd
        have hd' : xs[k] = ys[k] := by simpa using hd
        repeat' (first|refine X.O ?_|refine X.A ?_|refine X.B ?_|refine X.C ?_|refine X.D ?_|refine X.E ?_|refine X.F ?_|refine X.G ?_|refine X.H ?_|refine X.I ?_|fail)
        exact ⟨k + 1, ⟨rfl, rfl, rfl, trivial⟩, ⟨by omega, (take_eq_step hlt' hlt2 hkeq).2 hd', hs2.trans hs3⟩, by omega⟩
    · rename_i hge
      repeat' (first|refine X.O ?_|refine X.A ?_|refine X.B ?_|refine X.C ?_|refine X.D ?_|refine X.E ?_|refine X.F ?_|refine X.G ?_|refine X.H ?_|refine X.I ?_|fail)
      refine ⟨_, ret1 rfl (by rfl), ?_⟩
      refine ⟨?_, hs2⟩
      rw [decide_eq_true]
      have e1 : k = xs.length := by omega
      have e2 : k = ys.length := by omega
      have := hkeq
      rw [List.take_of_length_le (by omega), List.take_of_length_le (by omega)] at this
      exact this
theorem Equal_any {lo hi lo' hi' : Nat} {w : World} {v v' : Value} {xs ys : List Int} (h : IS lo hi w v xs) (h' : IS lo' hi' w v' ys) :
    Does Try.prog 49 [v, v'] w fun r w' => r = .bool (decide (xs = ys)) ∧ Still w w' := by
  obtain ⟨a, c, hv⟩ := h.shape
  obtain ⟨a', c', hv'⟩ := h'.shape
  rw [hv] at h ⊢
  rw [hv'] at h' ⊢
  have hm := h.len
  unfold maxLen at hm
  refine Does.enter Try.func49 Try.ntmps49 rfl (by rfl) ?_
  repeat' (first|refine X.O ?_|refine X.A ?_|refine X.B ?_|refine X.C ?_|refine X.D ?_|refine X.E ?_|refine X.F ?_|refine X.G ?_|refine X.H ?_|refine X.I ?_|fail)
  first|refine X.J (fun _ => ?_) (fun _ => ?_)|refine X.L (fun _ => ?_) (fun _ => ?_)|refine X.M (fun _ => ?_) (fun _ => ?_)|refine X.R (fun _ => ?_) (fun _ => ?_)|fail
  · rename_i hne
    repeat' (first|refine X.O ?_|refine X.A ?_|refine X.B ?_|refine X.C ?_|refine X.D ?_|refine X.E ?_|refine X.F ?_|refine X.G ?_|refine X.H ?_|refine X.I ?_|fail)
    refine ⟨_, ret1 rfl (by rfl), ?_⟩
    refine ⟨?_, Still.refl _⟩
    rw [decide_eq_false (fun e => hne (by rw [e]))]
  · rename_i heq
    have hl : xs.length = ys.length := by omega
    repeat' (first|refine X.O ?_|refine X.A ?_|refine X.B ?_|refine X.C ?_|refine X.D ?_|refine X.E ?_|refine X.F ?_|refine X.G ?_|refine X.H ?_|refine X.I ?_|fail)
    refine WP.loop (fun k => [(0, .slice a xs.length c), (1, .slice a' ys.length c'), (12, .int .i64 (xs.length : Nat)), (13, .int .i64 (k : Nat))]) (fun k w2 => k ≤ xs.length ∧ xs.take k = ys.take k ∧ Still w w2)
      (fun k => xs.length - k) 0 ⟨rfl, rfl, rfl, rfl, trivial⟩ ⟨by omega, by simp, Still.refl _⟩ ?_
    rintro k w2 ⟨hk, hkeq, hs2⟩
    repeat' (first|refine X.O ?_|refine X.A ?_|refine X.B ?_|refine X.C ?_|refine X.D ?_|refine X.E ?_|refine X.F ?_|refine X.G ?_|refine X.H ?_|refine X.I ?_|fail)
    first|refine X.J (fun _ => ?_) (fun _ => ?_)|refine X.L (fun _ => ?_) (fun _ => ?_)|refine X.M (fun _ => ?_) (fun _ => ?_)|refine X.R (fun _ => ?_) (fun _ => ?_)|fail
    · rename_i hlt
      have hlt' : k < xs.length := by omega
      have hlt2 : k < ys.length := by omega
      repeat' (first|refine X.O ?_|refine X.A ?_|refine X.B ?_|refine X.C ?_|refine X.D ?_|refine X.E ?_|refine X.F ?_|refine X.G ?_|refine X.H ?_|refine X.I ?_|fail)
      refine WP.drawn (fun w' => w'.heap = w2.heap) [(0, true), (1, true), (2, true), (3, true), (4, true), (5, true), (6, true), (7, true), (8, true)] (by kernel_rfl) mixed ?_
      intro w3 hs3
      have hw3 : w3.heap = w2.heap := hs3.heap
      have ha := (h.still RI.stable hs2).still RI.stable hs3
      have hb := (h'.still RI.stable hs2).still RI.stable hs3
      repeat' (first|refine X.U rfl ?_|refine X.V rfl ?_|refine X.W rfl ?_|refine X.Y rfl ?_|refine X.Z rfl ?_|refine WS.nil ?_|fail)
      refine WS.ixload rfl rfl ha (List.getElem?_eq_getElem hlt') (fun w' hw' => same_heap (hw'.trans hw3.symm)) hw3 ?_
      rintro p _ rfl
      repeat' (first|refine X.U rfl ?_|refine X.V rfl ?_|refine X.W rfl ?_|refine X.Y rfl ?_|refine X.Z rfl ?_|refine WS.nil ?_|fail)
      refine WS.ixload rfl rfl hb (List.getElem?_eq_getElem hlt2) (fun w' hw' => same_heap (hw'.trans hw3.symm)) hw3 ?_
      rintro p1 _ rfl
      repeat' (first|refine X.U rfl ?_|refine X.V rfl ?_|refine X.W rfl ?_|refine X.Y rfl ?_|refine X.Z rfl ?_|refine WS.nil ?_|fail)
      repeat' (first|refine X.O ?_|refine X.A ?_|refine X.B ?_|refine X.C ?_|refine X.D ?_|refine X.E ?_|refine X.F ?_|refine X.G ?_|refine X.H ?_|refine X.I ?_|fail)
      first|refine X.J (fun _ => ?_) (fun _ => ?_)|refine X.L (fun _ => ?_) (fun _ => ?_)|refine X.M (fun _ => ?_) (fun _ => ?_)|refine X.R (fun _ => ?_) (fun _ => ?_)|fail
      · rename_i hd
        repeat' (first|refine X.O ?_|refine X.A ?_|refine X.B ?_|refine X.C ?_|refine X.D ?_|refine X.E ?_|refine X.F ?_|refine X.G ?_|refine X.H ?_|refine X.I ?_|fail)
        refine ⟨_, ret1 rfl (by rfl), ?_⟩
        refine ⟨?_, hs2.trans hs3⟩
        rw [decide_eq_false (fun e => hd (by subst e; rfl))]
      · rename_i hd
        have hd' : xs[k] = ys[k] := by simpa using hd
        repeat' (first|refine X.O ?_|refine X.A ?_|refine X.B ?_|refine X.C ?_|refine X.D ?_|refine X.E ?_|refine X.F ?_|refine X.G ?_|refine X.H ?_|refine X.I ?_|fail)
        exact ⟨k + 1, ⟨rfl, rfl, rfl, (by first|rfl|exact X.T (by omega)), trivial⟩, ⟨by omega, (take_eq_step hlt' hlt2 hkeq).2 hd', hs2.trans hs3⟩, by omega⟩
    · rename_i hge
      repeat' (first|refine X.O ?_|refine X.A ?_|refine X.B ?_|refine X.C ?_|refine X.D ?_|refine X.E ?_|refine X.F ?_|refine X.G ?_|refine X.H ?_|refine X.I ?_|fail)
      refine ⟨_, ret1 rfl (by rfl), ?_⟩
      refine ⟨?_, hs2⟩
      rw [decide_eq_true]
      have e1 : k = xs.length := by omega
      have e2 : k = ys.length := by omega
      have := hkeq
      rw [List.take_of_length_le (by omega), List.take_of_length_le (by omega)] at this
      exact this
end Go.Proofs
/- Alike stages, the program's. -/
namespace Go.Proofs
open Go Go.Fw Go.RowKit Go.Rk
theorem matchC_eq {xss : List (List Int)} {cls : List Int} {k i : Nat} (hk : k < xss.length) (hi : i < xss.length) (hk2 : k < cls.length) (hi2 : i < cls.length) :
    matchC xss cls k i = (decide (cls[k] = cls[i]) && decide (sumsL xss[k] cls = sumsL xss[i] cls)) := by
  unfold matchC
  rw [List.getElem?_eq_getElem hk, List.getElem?_eq_getElem hi, List.getElem?_eq_getElem hk2, List.getElem?_eq_getElem hi2]
  rfl
end Go.Proofs
/- Alike stages, the reference's. -/
namespace Go.Proofs
open Go Go.Fw Go.RowKit Go.Rk
/-- What a call gives: a new slice of slices. -/
def _root_.Go.Fw.NewSS (e e2 : TypeId) (w : World) (r : Value) (w' : World) (xss : List (List Int)) : Prop := OwSS e e2 w.heap.size w'.heap.size w' r xss ∧ Below w.heap.size w w'
theorem _root_.Go.Fw.OwSSv.none {e e2 lo : Nat} {w : World} {v : Value} (hown : Own lo e w v []) (h : e ≠ e2) : OwSSv e e2 lo w.heap.size w v [] [] :=
  ⟨hown, fun k hk => (hown.block k hk).2, Nat.le_refl _, rfl, fun i u xs hu => by simp at hu, fun i j u u' _ hu => by simp at hu, h⟩
end Go.Proofs
