/- likeInts at two lists. -/
import Derived.Test.YthepgmajeljdhaaGreatDoorA1
set_option maxRecDepth 8000
namespace Go.Proofs
open Go Go.Fw Go.RowKit Go.Rk
theorem likeInts_any {lo hi lo' hi' : Nat} {w : World} {v v' : Value} {xs ys : List Int} (h : IS lo hi w v xs) (h' : IS lo' hi' w v' ys) :
    Does Tryz.prog 23 [v, v'] w fun r w' => r = .bool (decide (xs = ys)) ∧ Still w w' := by
  have hm := h.len
  unfold maxLen at hm
  obtain ⟨a, c, hv⟩ := h.shape
  obtain ⟨a', c', hv'⟩ := h'.shape
  subst hv hv'
  refine Does.enter Tryz.func23 Tryz.ntmps23 rfl (by rfl) ?_
  repeat' (first|refine X.O ?_|refine X.A ?_|refine X.B ?_|refine X.C ?_|refine X.D ?_|refine X.E ?_|refine X.F ?_|refine X.G ?_|refine X.H ?_|refine X.I ?_|fail)
  first|refine X.J (fun _ => ?_) (fun _ => ?_)|refine X.L (fun _ => ?_) (fun _ => ?_)|refine X.M (fun _ => ?_) (fun _ => ?_)|refine X.R (fun _ => ?_) (fun _ => ?_)|fail
  · rename_i hne
    repeat' (first|refine X.O ?_|refine X.A ?_|refine X.B ?_|refine X.C ?_|refine X.D ?_|refine X.E ?_|refine X.F ?_|refine X.G ?_|refine X.H ?_|refine X.I ?_|fail)
    refine ⟨_, ret1 rfl (by rfl), ?_⟩
    exact ⟨by rw [decide_eq_false (fun e => hne (by rw [e]))], Still.refl _⟩
  rename_i heq
  have hl : xs.length = ys.length := by omega
  repeat' (first|refine X.O ?_|refine X.A ?_|refine X.B ?_|refine X.C ?_|refine X.D ?_|refine X.E ?_|refine X.F ?_|refine X.G ?_|refine X.H ?_|refine X.I ?_|fail)
  refine WP.loop (fun (i : Nat) => [(0, .slice a xs.length c), (1, .slice a' ys.length c'), (5, .int .i64 (i : Nat))])
    (fun i w2 => i ≤ xs.length ∧ xs.take i = ys.take i ∧ Still w w2)
    (fun i => xs.length - i) 0 ⟨rfl, rfl, rfl, trivial⟩ ⟨by omega, by simp, Still.refl _⟩ ?_
  rintro i w2 ⟨hi1, hte, hs2⟩
  repeat' (first|refine X.O ?_|refine X.A ?_|refine X.B ?_|refine X.C ?_|refine X.D ?_|refine X.E ?_|refine X.F ?_|refine X.G ?_|refine X.H ?_|refine X.I ?_|fail)
  first|refine X.J (fun _ => ?_) (fun _ => ?_)|refine X.L (fun _ => ?_) (fun _ => ?_)|refine X.M (fun _ => ?_) (fun _ => ?_)|refine X.R (fun _ => ?_) (fun _ => ?_)|fail
  · rename_i hlt
    have hli : i < xs.length := by omega
    have hli' : i < ys.length := by omega
    repeat' (first|refine X.O ?_|refine X.A ?_|refine X.B ?_|refine X.C ?_|refine X.D ?_|refine X.E ?_|refine X.F ?_|refine X.G ?_|refine X.H ?_|refine X.I ?_|fail)
    refine WP.drawn (fun w' => w'.heap = w2.heap) [(0, true), (1, true), (2, true), (3, true), (4, true), (5, true), (6, true), (7, true), (8, true)] (by kernel_rfl) mixed ?_
    intro w3 hs3
    have hw3 : w3.heap = w2.heap := hs3.heap
    have hs23 := hs2.trans hs3
    repeat' (first|refine X.U rfl ?_|refine X.V rfl ?_|refine X.W rfl ?_|refine X.Y rfl ?_|refine X.Z rfl ?_|refine WS.nil ?_|fail)
    refine WS.ixload (j := i) rfl rfl (h.still RI.stable hs23) (List.getElem?_eq_getElem hli) (fun w' hw' => same_heap (hw'.trans hw3.symm)) hw3 ?_
    rintro p1 _ rfl
    repeat' (first|refine X.U rfl ?_|refine X.V rfl ?_|refine X.W rfl ?_|refine X.Y rfl ?_|refine X.Z rfl ?_|refine WS.nil ?_|fail)
    refine WS.ixload (j := i) rfl rfl (h'.still RI.stable hs23) (List.getElem?_eq_getElem hli') (fun w' hw' => same_heap (hw'.trans hw3.symm)) hw3 ?_
    rintro p2 _ rfl
    repeat' (first|refine X.U rfl ?_|refine X.V rfl ?_|refine X.W rfl ?_|refine X.Y rfl ?_|refine X.Z rfl ?_|refine WS.nil ?_|fail)
    repeat' (first|refine X.O ?_|refine X.A ?_|refine X.B ?_|refine X.C ?_|refine X.D ?_|refine X.E ?_|refine X.F ?_|refine X.G ?_|refine X.H ?_|refine X.I ?_|fail)
    first|refine X.J (fun _ => ?_) (fun _ => ?_)|refine X.L (fun _ => ?_) (fun _ => ?_)|refine X.M (fun _ => ?_) (fun _ => ?_)|refine X.R (fun _ => ?_) (fun _ => ?_)|fail
    · rename_i hne
      repeat' (first|refine X.O ?_|refine X.A ?_|refine X.B ?_|refine X.C ?_|refine X.D ?_|refine X.E ?_|refine X.F ?_|refine X.G ?_|refine X.H ?_|refine X.I ?_|fail)
      refine ⟨_, ret1 rfl (by rfl), ?_⟩
      exact ⟨by rw [decide_eq_false (fun e => (by simpa using hne : ¬ xs[i] = ys[i]) (by subst e; rfl))], hs23⟩
    · rename_i he
      have he' : xs[i] = ys[i] := by simpa using he
      repeat' (first|refine X.O ?_|refine X.A ?_|refine X.B ?_|refine X.C ?_|refine X.D ?_|refine X.E ?_|refine X.F ?_|refine X.G ?_|refine X.H ?_|refine X.I ?_|fail)
      exact ⟨i + 1, ⟨rfl, rfl, (by first|rfl|exact X.T (by omega)), trivial⟩, ⟨by omega, by rw [List.take_succ_eq_append_getElem hli, List.take_succ_eq_append_getElem hli', hte, he'], hs23⟩, by omega⟩
  · rename_i hge
    have hie : i = xs.length := by omega
    subst hie
    repeat' (first|refine X.O ?_|refine X.A ?_|refine X.B ?_|refine X.C ?_|refine X.D ?_|refine X.E ?_|refine X.F ?_|refine X.G ?_|refine X.H ?_|refine X.I ?_|fail)
    refine ⟨_, ret1 rfl (by rfl), ?_⟩
    exact ⟨by rw [decide_eq_true (by rw [List.take_length, hl, List.take_length] at hte; exact hte)], hs2⟩
end Go.Proofs
