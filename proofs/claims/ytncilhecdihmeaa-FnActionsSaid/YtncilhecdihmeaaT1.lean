/- Tableaus: what the program's and the reference's functions say of them. -/
import Derived.Test.YtncilhecdihmeaaHB
import Derived.Test.YtncilhecdihmeaaPlA
import Derived.Test.YtncilhecdihmeaaA1
namespace Go.Proofs
open Go Go.Fw Go.RowKit Go.Rk

theorem idxFrom_drop' {α : Type} (p : α → Bool) {xs : List α} {i : Nat} (h : i < xs.length) : idxFrom p i (xs.drop i) = if p xs[i] then (i : Int) else idxFrom p ((i + 1 : Nat) : Int) (xs.drop (i + 1)) := by
  rw [List.drop_eq_getElem_cons h, idxFrom]; rfl
theorem IndexFunc_rows {lo hi : Nat} {w : World} {v : Value} {xss : List (List Int)} {f : FuncId} [FuncTy Try.prog f] {cap : List Value} (p : List Int → Bool) (h : ISS lo hi w v xss)
    (hp : ∀ xs ∈ xss, ∀ u w', Still w w' → IS lo hi w' u xs → Does Try.prog f ([u] ++ cap) w' fun r w'' => r = .bool (p xs) ∧ Still w' w'') :
    Does Try.prog 80 [v, .func (.func f) #[] cap.toArray] w fun r w' => r = .int .i64 (idxFrom p 0 xss) ∧ Still w w' := by
  obtain ⟨a, c, hv⟩ := h.shape
  rw [hv] at h ⊢
  have hm := h.len
  unfold maxLen at hm
  refine Does.enter Try.func80 Try.ntmps80 rfl (by rfl) ?_
  repeat' (first|refine X.O ?_|refine X.A ?_|refine X.B ?_|refine X.C ?_|refine X.D ?_|refine X.E ?_|refine X.F ?_|refine X.G ?_|refine X.H ?_|refine X.I ?_|fail)
  refine WP.loop (fun i => [(0, .slice a xss.length c), (1, .func (.func f) #[] cap.toArray), (7, .int .i64 xss.length), (8, .int .i64 (i : Nat))]) (fun i w2 => i ≤ xss.length ∧ idxFrom p 0 xss = idxFrom p (i : Nat) (xss.drop i) ∧ Still w w2)
    (fun i => xss.length - i) 0 ⟨rfl, rfl, rfl, rfl, trivial⟩ ⟨by omega, by simp, Still.refl _⟩ ?_
  rintro i w2 ⟨hi1, hq, hs⟩
  repeat' (first|refine X.O ?_|refine X.A ?_|refine X.B ?_|refine X.C ?_|refine X.D ?_|refine X.E ?_|refine X.F ?_|refine X.G ?_|refine X.H ?_|refine X.I ?_|fail)
  first|refine X.J (fun _ => ?_) (fun _ => ?_)|refine X.L (fun _ => ?_) (fun _ => ?_)|refine X.M (fun _ => ?_) (fun _ => ?_)|refine X.R (fun _ => ?_) (fun _ => ?_)|fail
  · rename_i hlt
    have hlt' : i < xss.length := by omega
    repeat' (first|refine X.O ?_|refine X.A ?_|refine X.B ?_|refine X.C ?_|refine X.D ?_|refine X.E ?_|refine X.F ?_|refine X.G ?_|refine X.H ?_|refine X.I ?_|fail)
    refine WL.ixload (h.still IS.stable hs) (List.getElem?_eq_getElem hlt') ?_
    intro p1 u hu
    refine WL.step (o_callV (f := f) (fst := []) (cap := cap) (by rfl) (hp _ (List.getElem_mem hlt') u w2 hs hu) ?_)
    rintro _ w3 ⟨rfl, hs3⟩
    repeat' (first|refine X.O ?_|refine X.A ?_|refine X.B ?_|refine X.C ?_|refine X.D ?_|refine X.E ?_|refine X.F ?_|refine X.G ?_|refine X.H ?_|refine X.I ?_|fail)
    rw [idxFrom_drop' p hlt'] at hq
    first|refine X.J (fun _ => ?_) (fun _ => ?_)|refine X.L (fun _ => ?_) (fun _ => ?_)|refine X.M (fun _ => ?_) (fun _ => ?_)|refine X.R (fun _ => ?_) (fun _ => ?_)|fail
    · rename_i hpx
      repeat' (first|refine X.O ?_|refine X.A ?_|refine X.B ?_|refine X.C ?_|refine X.D ?_|refine X.E ?_|refine X.F ?_|refine X.G ?_|refine X.H ?_|refine X.I ?_|fail)
      refine ⟨_, ret1 rfl (by rfl), ?_⟩
      rw [hpx] at hq
      exact ⟨by rw [hq]; rfl, hs.trans hs3⟩
    · rename_i hpx
      rw [hpx] at hq
      repeat' (first|refine X.O ?_|refine X.A ?_|refine X.B ?_|refine X.C ?_|refine X.D ?_|refine X.E ?_|refine X.F ?_|refine X.G ?_|refine X.H ?_|refine X.I ?_|fail)
      exact ⟨i + 1, ⟨rfl, rfl, rfl, rfl, trivial⟩, ⟨by omega, hq, hs.trans hs3⟩, by omega⟩
  · rename_i hge
    have : i = xss.length := by omega
    subst this
    repeat' (first|refine X.O ?_|refine X.A ?_|refine X.B ?_|refine X.C ?_|refine X.D ?_|refine X.E ?_|refine X.F ?_|refine X.G ?_|refine X.H ?_|refine X.I ?_|fail)
    refine ⟨_, ret1 rfl (by rfl), ?_⟩
    simp [idxFrom] at hq
    exact ⟨by rw [hq], hs⟩
theorem ContainsFunc_rows {lo hi : Nat} {w : World} {v : Value} {xss : List (List Int)} {f : FuncId} [FuncTy Try.prog f] {cap : List Value} (p : List Int → Bool) (h : ISS lo hi w v xss)
    (hp : ∀ xs ∈ xss, ∀ u w', Still w w' → IS lo hi w' u xs → Does Try.prog f ([u] ++ cap) w' fun r w'' => r = .bool (p xs) ∧ Still w' w'') :
    Does Try.prog 61 [v, .func (.func f) #[] cap.toArray] w fun r w' => r = .bool (xss.any p) ∧ Still w w' := by
  refine Does.enter Try.func61 Try.ntmps61 rfl (by rfl) ?_
  repeat' (first|refine X.O ?_|refine X.A ?_|refine X.B ?_|refine X.C ?_|refine X.D ?_|refine X.E ?_|refine X.F ?_|refine X.G ?_|refine X.H ?_|refine X.I ?_|fail)
  refine WL.call (IndexFunc_rows p h hp) ?_
  rintro _ w1 ⟨rfl, hs⟩
  repeat' (first|refine X.O ?_|refine X.A ?_|refine X.B ?_|refine X.C ?_|refine X.D ?_|refine X.E ?_|refine X.F ?_|refine X.G ?_|refine X.H ?_|refine X.I ?_|fail)
  refine ⟨_, ret1 rfl (by rfl), ?_⟩
  refine ⟨?_, hs⟩
  refine congrArg Value.bool ?_
  rw [Bool.eq_iff_iff, decide_eq_true_iff]
  exact idxFrom_lt p xss 0 (by omega)
theorem length_any {lo hi : Nat} {w : World} {v : Value} {xs : List Int} (h : IS lo hi w v xs) : Does Try.prog 73 [v] w fun r w' => r = .int .i64 xs.length ∧ Still w w' := by
  obtain ⟨a, c, hv⟩ := h.shape
  rw [hv] at h ⊢
  have hm := h.len
  unfold maxLen at hm
  refine Does.enter Try.func73 Try.ntmps73 rfl (by rfl) ?_
  repeat' (first|refine X.O ?_|refine X.A ?_|refine X.B ?_|refine X.C ?_|refine X.D ?_|refine X.E ?_|refine X.F ?_|refine X.G ?_|refine X.H ?_|refine X.I ?_|fail)
  refine ⟨_, ret1 rfl (by rfl), ?_⟩
  exact ⟨rfl, Still.refl _⟩
end Go.Proofs
