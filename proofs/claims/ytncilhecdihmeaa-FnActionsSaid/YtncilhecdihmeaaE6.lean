/- The comparisons of trees and forests: what they give, and that they leave the world as it was. -/
import Derived.Test.YtncilhecdihmeaaE1
import Derived.Test.YtncilhecdihmeaaHB
import Derived.Test.YtncilhecdihmeaaK1
import Derived.Shelf.SlSortCmp.WholeK
set_option maxRecDepth 8000
namespace Go.Rk
open Go.Fw Go.Proofs
/-- Forests of one length, tree by tree. -/
def cmpFo : List (List Int) → List (List Int) → Int
  | [], [] => 0
  | [], _ :: _ => -1
  | _ :: _, [] => 1
  | x :: xs, y :: ys => if cmpT x y ≠ 0 then cmpT x y else cmpFo xs ys
def cmpTr (f g : List (List Int)) : Int := if f.length ≠ g.length then (f.length : Int) - g.length else cmpFo f g
def cmpF (f g : List (List Int)) : Int := if (f.flatten.length : Int) - g.flatten.length ≠ 0 then (f.flatten.length : Int) - g.flatten.length else cmpTr f g
theorem cmpFo_step {xs ys : List (List Int)} {i : Nat} (hx : i < xs.length) (hy : i < ys.length) : cmpFo (xs.drop i) (ys.drop i) = if cmpT xs[i] ys[i] ≠ 0 then cmpT xs[i] ys[i] else cmpFo (xs.drop (i + 1)) (ys.drop (i + 1)) := by
  rw [List.drop_eq_getElem_cons hx, List.drop_eq_getElem_cons hy, cmpFo]
theorem cmpFo_left {xs ys : List (List Int)} {i : Nat} (hx : i < xs.length) (hy : ys.length ≤ i) : cmpFo (xs.drop i) (ys.drop i) = 1 := by
  rw [List.drop_eq_getElem_cons hx, List.drop_eq_nil_of_le hy, cmpFo]
theorem cmpFo_right {xs ys : List (List Int)} {i : Nat} (hx : xs.length ≤ i) (hy : i < ys.length) : cmpFo (xs.drop i) (ys.drop i) = -1 := by
  rw [List.drop_eq_getElem_cons hy, List.drop_eq_nil_of_le hx, cmpFo]
theorem cmpFo_end {xs ys : List (List Int)} {i : Nat} (hx : xs.length ≤ i) (hy : ys.length ≤ i) : cmpFo (xs.drop i) (ys.drop i) = 0 := by
  rw [List.drop_eq_nil_of_le hy, List.drop_eq_nil_of_le hx, cmpFo]
theorem flat_take_len {xss : List (List Int)} {i : Nat} (h : i < xss.length) : (xss.take (i + 1)).flatten.length = (xss.take i).flatten.length + xss[i].length := by
  rw [List.take_succ_eq_append_getElem h, List.flatten_append, List.length_append]; simp
theorem flat_take_le (xss : List (List Int)) (i : Nat) : (xss.take i).flatten.length ≤ xss.flatten.length := by
  conv => rhs; rw [← List.take_append_drop i xss, List.flatten_append, List.length_append]
  omega
end Go.Rk
namespace Go.Proofs
open Go Go.Fw Go.RowKit Go.Rk
theorem isNaN_eq (n : Int) (w : World) : Does Try.prog 107 [.int .i64 n] w fun r w' => r = .bool false ∧ w = w' := by
  refine Does.enter Try.func107 Try.ntmps107 rfl (by rfl) ?_
  repeat' (first|refine X.O ?_|refine X.A ?_|refine X.B ?_|refine X.C ?_|refine X.D ?_|refine X.E ?_|refine X.F ?_|refine X.G ?_|refine X.H ?_|refine X.I ?_|fail)
  refine ⟨_, ret1 rfl (by rfl), ?_⟩
  exact ⟨by simp, rfl⟩
theorem cmpCompare_eq (a b : Int) (w : World) : Does Try.prog 85 [.int .i64 a, .int .i64 b] w fun r w' => r = .int .i64 (cmpI a b) ∧ w = w' := by
  refine Does.enter Try.func85 Try.ntmps85 rfl (by rfl) ?_
  repeat' (first|refine X.O ?_|refine X.A ?_|refine X.B ?_|refine X.C ?_|refine X.D ?_|refine X.E ?_|refine X.F ?_|refine X.G ?_|refine X.H ?_|refine X.I ?_|fail)
  refine WL.call (isNaN_eq a _) ?_
  rintro _ _ ⟨rfl, rfl⟩
  repeat' (first|refine X.O ?_|refine X.A ?_|refine X.B ?_|refine X.C ?_|refine X.D ?_|refine X.E ?_|refine X.F ?_|refine X.G ?_|refine X.H ?_|refine X.I ?_|fail)
  refine WL.call (isNaN_eq b _) ?_
  rintro _ _ ⟨rfl, rfl⟩
  repeat' (first|refine X.O ?_|refine X.A ?_|refine X.B ?_|refine X.C ?_|refine X.D ?_|refine X.E ?_|refine X.F ?_|refine X.G ?_|refine X.H ?_|refine X.I ?_|fail)
  first|refine X.J (fun _ => ?_) (fun _ => ?_)|refine X.L (fun _ => ?_) (fun _ => ?_)|refine X.M (fun _ => ?_) (fun _ => ?_)|refine X.R (fun _ => ?_) (fun _ => ?_)|fail
  · rename_i h
    repeat' (first|refine X.O ?_|refine X.A ?_|refine X.B ?_|refine X.C ?_|refine X.D ?_|refine X.E ?_|refine X.F ?_|refine X.G ?_|refine X.H ?_|refine X.I ?_|fail)
    refine ⟨_, ret1 rfl (by rfl), ?_⟩
    exact ⟨by unfold cmpI; rw [if_pos h], rfl⟩
  rename_i h
  repeat' (first|refine X.O ?_|refine X.A ?_|refine X.B ?_|refine X.C ?_|refine X.D ?_|refine X.E ?_|refine X.F ?_|refine X.G ?_|refine X.H ?_|refine X.I ?_|fail)
  first|refine X.J (fun _ => ?_) (fun _ => ?_)|refine X.L (fun _ => ?_) (fun _ => ?_)|refine X.M (fun _ => ?_) (fun _ => ?_)|refine X.R (fun _ => ?_) (fun _ => ?_)|fail
  · rename_i h2
    repeat' (first|refine X.O ?_|refine X.A ?_|refine X.B ?_|refine X.C ?_|refine X.D ?_|refine X.E ?_|refine X.F ?_|refine X.G ?_|refine X.H ?_|refine X.I ?_|fail)
    refine ⟨_, ret1 rfl (by rfl), ?_⟩
    exact ⟨by unfold cmpI; rw [if_neg h, if_pos h2], rfl⟩
  · rename_i h2
    repeat' (first|refine X.O ?_|refine X.A ?_|refine X.B ?_|refine X.C ?_|refine X.D ?_|refine X.E ?_|refine X.F ?_|refine X.G ?_|refine X.H ?_|refine X.I ?_|fail)
    refine ⟨_, ret1 rfl (by rfl), ?_⟩
    exact ⟨by unfold cmpI; rw [if_neg h, if_neg h2], rfl⟩
theorem Compare_eq {lo hi lo' hi' : Nat} {w : World} {v v' : Value} {xs ys : List Int} (h : IS lo hi w v xs) (h' : IS lo' hi' w v' ys) :
    Does Try.prog 68 [v, v'] w fun r w' => r = .int .i64 (cmpL xs ys) ∧ w = w' := by
  have hm := h.len
  have hm' := h'.len
  unfold maxLen at hm hm'
  obtain ⟨a, c, hv⟩ := h.shape
  obtain ⟨a', c', hv'⟩ := h'.shape
  subst hv hv'
  refine Does.enter Try.func68 Try.ntmps68 rfl (by rfl) ?_
  repeat' (first|refine X.O ?_|refine X.A ?_|refine X.B ?_|refine X.C ?_|refine X.D ?_|refine X.E ?_|refine X.F ?_|refine X.G ?_|refine X.H ?_|refine X.I ?_|fail)
  refine WP.loop (fun (i : Nat) => [(0, .slice a xs.length c), (1, .slice a' ys.length c'), (9, .slice a xs.length c), (10, .int .i64 (xs.length : Nat)), (11, .int .i64 (i : Nat))])
    (fun i w2 => i ≤ xs.length ∧ i ≤ ys.length ∧ cmpL xs ys = cmpL (xs.drop i) (ys.drop i) ∧ w = w2)
    (fun i => xs.length - i) 0 ⟨rfl, rfl, rfl, rfl, rfl, trivial⟩ ⟨by omega, by omega, rfl, rfl⟩ ?_
  rintro i _ ⟨hi1, hi2, he, rfl⟩
  repeat' (first|refine X.O ?_|refine X.A ?_|refine X.B ?_|refine X.C ?_|refine X.D ?_|refine X.E ?_|refine X.F ?_|refine X.G ?_|refine X.H ?_|refine X.I ?_|fail)
  first|refine X.J (fun _ => ?_) (fun _ => ?_)|refine X.L (fun _ => ?_) (fun _ => ?_)|refine X.M (fun _ => ?_) (fun _ => ?_)|refine X.R (fun _ => ?_) (fun _ => ?_)|fail
  · rename_i hlt
    have hli : i < xs.length := by omega
    repeat' (first|refine X.O ?_|refine X.A ?_|refine X.B ?_|refine X.C ?_|refine X.D ?_|refine X.E ?_|refine X.F ?_|refine X.G ?_|refine X.H ?_|refine X.I ?_|fail)
    refine WL.ixload (j := i) h (List.getElem?_eq_getElem hli) ?_
    rintro p _ rfl
    repeat' (first|refine X.O ?_|refine X.A ?_|refine X.B ?_|refine X.C ?_|refine X.D ?_|refine X.E ?_|refine X.F ?_|refine X.G ?_|refine X.H ?_|refine X.I ?_|fail)
    first|refine X.J (fun _ => ?_) (fun _ => ?_)|refine X.L (fun _ => ?_) (fun _ => ?_)|refine X.M (fun _ => ?_) (fun _ => ?_)|refine X.R (fun _ => ?_) (fun _ => ?_)|fail
    · rename_i hge
      repeat' (first|refine X.O ?_|refine X.A ?_|refine X.B ?_|refine X.C ?_|refine X.D ?_|refine X.E ?_|refine X.F ?_|refine X.G ?_|refine X.H ?_|refine X.I ?_|fail)
      refine ⟨_, ret1 rfl (by rfl), ?_⟩
      exact ⟨by rw [he, cmpL_left hli (by omega)], rfl⟩
    · rename_i hge
      have hlj : i < ys.length := by omega
      rw [cmpL_step hli hlj] at he
      repeat' (first|refine X.O ?_|refine X.A ?_|refine X.B ?_|refine X.C ?_|refine X.D ?_|refine X.E ?_|refine X.F ?_|refine X.G ?_|refine X.H ?_|refine X.I ?_|fail)
      refine WL.ixload (j := i) h' (List.getElem?_eq_getElem hlj) ?_
      rintro p2 _ rfl
      repeat' (first|refine X.O ?_|refine X.A ?_|refine X.B ?_|refine X.C ?_|refine X.D ?_|refine X.E ?_|refine X.F ?_|refine X.G ?_|refine X.H ?_|refine X.I ?_|fail)
      refine WL.call (cmpCompare_eq xs[i] ys[i] _) ?_
      rintro _ _ ⟨rfl, rfl⟩
      repeat' (first|refine X.O ?_|refine X.A ?_|refine X.B ?_|refine X.C ?_|refine X.D ?_|refine X.E ?_|refine X.F ?_|refine X.G ?_|refine X.H ?_|refine X.I ?_|fail)
      first|refine X.J (fun _ => ?_) (fun _ => ?_)|refine X.L (fun _ => ?_) (fun _ => ?_)|refine X.M (fun _ => ?_) (fun _ => ?_)|refine X.R (fun _ => ?_) (fun _ => ?_)|fail
      · rename_i hne
        rw [if_pos hne] at he
        repeat' (first|refine X.O ?_|refine X.A ?_|refine X.B ?_|refine X.C ?_|refine X.D ?_|refine X.E ?_|refine X.F ?_|refine X.G ?_|refine X.H ?_|refine X.I ?_|fail)
        refine ⟨_, ret1 rfl (by rfl), ?_⟩
        exact ⟨by rw [he], rfl⟩
      · rename_i hne
        rw [if_neg hne] at he
        repeat' (first|refine X.O ?_|refine X.A ?_|refine X.B ?_|refine X.C ?_|refine X.D ?_|refine X.E ?_|refine X.F ?_|refine X.G ?_|refine X.H ?_|refine X.I ?_|fail)
        exact ⟨i + 1, ⟨rfl, rfl, rfl, rfl, (by first|rfl|exact X.T (by omega)), trivial⟩, ⟨by omega, by omega, he, rfl⟩, by omega⟩
  · rename_i hge
    repeat' (first|refine X.O ?_|refine X.A ?_|refine X.B ?_|refine X.C ?_|refine X.D ?_|refine X.E ?_|refine X.F ?_|refine X.G ?_|refine X.H ?_|refine X.I ?_|fail)
    first|refine X.J (fun _ => ?_) (fun _ => ?_)|refine X.L (fun _ => ?_) (fun _ => ?_)|refine X.M (fun _ => ?_) (fun _ => ?_)|refine X.R (fun _ => ?_) (fun _ => ?_)|fail
    · rename_i hlt
      repeat' (first|refine X.O ?_|refine X.A ?_|refine X.B ?_|refine X.C ?_|refine X.D ?_|refine X.E ?_|refine X.F ?_|refine X.G ?_|refine X.H ?_|refine X.I ?_|fail)
      refine ⟨_, ret1 rfl (by rfl), ?_⟩
      exact ⟨by rw [he, cmpL_right (by omega) (by omega)], rfl⟩
    · rename_i hlt
      repeat' (first|refine X.O ?_|refine X.A ?_|refine X.B ?_|refine X.C ?_|refine X.D ?_|refine X.E ?_|refine X.F ?_|refine X.G ?_|refine X.H ?_|refine X.I ?_|fail)
      refine ⟨_, ret1 rfl (by rfl), ?_⟩
      exact ⟨by rw [he, cmpL_end (by omega) (by omega)], rfl⟩
theorem compareTrees_eq {lo hi lo' hi' : Nat} {w : World} {v v' : Value} {xs ys : List Int} (h : IS lo hi w v xs) (h' : IS lo' hi' w v' ys) :
    Does Try.prog 94 [v, v'] w fun r w' => r = .int .i64 (cmpT xs ys) ∧ w = w' := by
  have hm := h.len
  have hm' := h'.len
  unfold maxLen at hm hm'
  obtain ⟨a, c, hv⟩ := h.shape
  obtain ⟨a', c', hv'⟩ := h'.shape
  subst hv hv'
  refine Does.enter Try.func94 Try.ntmps94 rfl (by rfl) ?_
  repeat' (first|refine X.O ?_|refine X.A ?_|refine X.B ?_|refine X.C ?_|refine X.D ?_|refine X.E ?_|refine X.F ?_|refine X.G ?_|refine X.H ?_|refine X.I ?_|fail)
  first|refine X.J (fun _ => ?_) (fun _ => ?_)|refine X.L (fun _ => ?_) (fun _ => ?_)|refine X.M (fun _ => ?_) (fun _ => ?_)|refine X.R (fun _ => ?_) (fun _ => ?_)|fail
  · rename_i hne
    repeat' (first|refine X.O ?_|refine X.A ?_|refine X.B ?_|refine X.C ?_|refine X.D ?_|refine X.E ?_|refine X.F ?_|refine X.G ?_|refine X.H ?_|refine X.I ?_|fail)
    refine ⟨_, ret1 rfl (by rfl), ?_⟩
    exact ⟨by unfold cmpT; rw [if_pos (by omega)], rfl⟩
  · rename_i hne
    repeat' (first|refine X.O ?_|refine X.A ?_|refine X.B ?_|refine X.C ?_|refine X.D ?_|refine X.E ?_|refine X.F ?_|refine X.G ?_|refine X.H ?_|refine X.I ?_|fail)
    refine WL.call (Compare_eq h' h) ?_
    rintro _ _ ⟨rfl, rfl⟩
    repeat' (first|refine X.O ?_|refine X.A ?_|refine X.B ?_|refine X.C ?_|refine X.D ?_|refine X.E ?_|refine X.F ?_|refine X.G ?_|refine X.H ?_|refine X.I ?_|fail)
    refine ⟨_, ret1 rfl (by rfl), ?_⟩
    exact ⟨by unfold cmpT; rw [if_neg (by omega)], rfl⟩
theorem nodesIn_eq {lo hi : Nat} {w : World} {v : Value} {f : List (List Int)} (h : ISS lo hi w v f) (hn : f.flatten.length ≤ 1000000000) :
    Does Try.prog 110 [v] w fun r w' => r = .int .i64 (f.flatten.length : Nat) ∧ w = w' := by
  have hm := h.len
  unfold maxLen at hm
  obtain ⟨a, c, hv⟩ := h.shape
  subst hv
  refine Does.enter Try.func110 Try.ntmps110 rfl (by rfl) ?_
  repeat' (first|refine X.O ?_|refine X.A ?_|refine X.B ?_|refine X.C ?_|refine X.D ?_|refine X.E ?_|refine X.F ?_|refine X.G ?_|refine X.H ?_|refine X.I ?_|fail)
  refine WP.loop (fun (i : Nat) => [(3, .int .i64 ((f.take i).flatten.length : Nat)), (6, .slice a f.length c), (7, .int .i64 (f.length : Nat)), (8, .int .i64 (i : Nat))])
    (fun i w2 => i ≤ f.length ∧ w = w2)
    (fun i => f.length - i) 0 ⟨rfl, rfl, rfl, rfl, trivial⟩ ⟨by omega, rfl⟩ ?_
  rintro i _ ⟨hi1, rfl⟩
  have hle := flat_take_le f i
  repeat' (first|refine X.O ?_|refine X.A ?_|refine X.B ?_|refine X.C ?_|refine X.D ?_|refine X.E ?_|refine X.F ?_|refine X.G ?_|refine X.H ?_|refine X.I ?_|fail)
  first|refine X.J (fun _ => ?_) (fun _ => ?_)|refine X.L (fun _ => ?_) (fun _ => ?_)|refine X.M (fun _ => ?_) (fun _ => ?_)|refine X.R (fun _ => ?_) (fun _ => ?_)|fail
  · rename_i hlt
    have hli : i < f.length := by omega
    have h1 := flat_take_len hli
    have h2 := flat_take_le f (i + 1)
    repeat' (first|refine X.O ?_|refine X.A ?_|refine X.B ?_|refine X.C ?_|refine X.D ?_|refine X.E ?_|refine X.F ?_|refine X.G ?_|refine X.H ?_|refine X.I ?_|fail)
    refine WL.ixload (j := i) h (List.getElem?_eq_getElem hli) ?_
    intro p u hu
    obtain ⟨au, cu, hvu⟩ := hu.shape
    subst hvu
    repeat' (first|refine X.O ?_|refine X.A ?_|refine X.B ?_|refine X.C ?_|refine X.D ?_|refine X.E ?_|refine X.F ?_|refine X.G ?_|refine X.H ?_|refine X.I ?_|fail)
    exact ⟨i + 1, ⟨(by first|rfl|exact X.T (by omega)), rfl, rfl, (by first|rfl|exact X.T (by omega)), trivial⟩, ⟨by omega, rfl⟩, by omega⟩
  · rename_i hge
    have hie : i = f.length := by omega
    subst hie
    rw [List.take_length]
    repeat' (first|refine X.O ?_|refine X.A ?_|refine X.B ?_|refine X.C ?_|refine X.D ?_|refine X.E ?_|refine X.F ?_|refine X.G ?_|refine X.H ?_|refine X.I ?_|fail)
    refine ⟨_, ret1 rfl (by rfl), ?_⟩
    exact ⟨rfl, rfl⟩
theorem CompareFunc_eq {lo hi lo' hi' : Nat} {w : World} {v v' : Value} {xs ys : List (List Int)} (h : ISS lo hi w v xs) (h' : ISS lo' hi' w v' ys) :
    Does Try.prog 111 [v, v', .func (.func 94) #[] #[]] w fun r w' => r = .int .i64 (cmpFo xs ys) ∧ w = w' := by
  have hm := h.len
  have hm' := h'.len
  unfold maxLen at hm hm'
  obtain ⟨a, c, hv⟩ := h.shape
  obtain ⟨a', c', hv'⟩ := h'.shape
  subst hv hv'
  refine Does.enter Try.func111 Try.ntmps111 rfl (by rfl) ?_
  repeat' (first|refine X.O ?_|refine X.A ?_|refine X.B ?_|refine X.C ?_|refine X.D ?_|refine X.E ?_|refine X.F ?_|refine X.G ?_|refine X.H ?_|refine X.I ?_|fail)
  refine WP.loop (fun (i : Nat) => [(0, .slice a xs.length c), (1, .slice a' ys.length c'), (2, .func (.func 94) #[] #[]), (11, .slice a xs.length c), (12, .int .i64 (xs.length : Nat)), (13, .int .i64 (i : Nat))])
    (fun i w2 => i ≤ xs.length ∧ i ≤ ys.length ∧ cmpFo xs ys = cmpFo (xs.drop i) (ys.drop i) ∧ w = w2)
    (fun i => xs.length - i) 0 ⟨rfl, rfl, rfl, rfl, rfl, rfl, trivial⟩ ⟨by omega, by omega, rfl, rfl⟩ ?_
  rintro i _ ⟨hi1, hi2, he, rfl⟩
  repeat' (first|refine X.O ?_|refine X.A ?_|refine X.B ?_|refine X.C ?_|refine X.D ?_|refine X.E ?_|refine X.F ?_|refine X.G ?_|refine X.H ?_|refine X.I ?_|fail)
  first|refine X.J (fun _ => ?_) (fun _ => ?_)|refine X.L (fun _ => ?_) (fun _ => ?_)|refine X.M (fun _ => ?_) (fun _ => ?_)|refine X.R (fun _ => ?_) (fun _ => ?_)|fail
  · rename_i hlt
    have hli : i < xs.length := by omega
    repeat' (first|refine X.O ?_|refine X.A ?_|refine X.B ?_|refine X.C ?_|refine X.D ?_|refine X.E ?_|refine X.F ?_|refine X.G ?_|refine X.H ?_|refine X.I ?_|fail)
    refine WL.ixload (j := i) h (List.getElem?_eq_getElem hli) ?_
    intro p u hu
    repeat' (first|refine X.O ?_|refine X.A ?_|refine X.B ?_|refine X.C ?_|refine X.D ?_|refine X.E ?_|refine X.F ?_|refine X.G ?_|refine X.H ?_|refine X.I ?_|fail)
    first|refine X.J (fun _ => ?_) (fun _ => ?_)|refine X.L (fun _ => ?_) (fun _ => ?_)|refine X.M (fun _ => ?_) (fun _ => ?_)|refine X.R (fun _ => ?_) (fun _ => ?_)|fail
    · rename_i hge
      repeat' (first|refine X.O ?_|refine X.A ?_|refine X.B ?_|refine X.C ?_|refine X.D ?_|refine X.E ?_|refine X.F ?_|refine X.G ?_|refine X.H ?_|refine X.I ?_|fail)
      refine ⟨_, ret1 rfl (by rfl), ?_⟩
      exact ⟨by rw [he, cmpFo_left hli (by omega)], rfl⟩
    · rename_i hge
      have hlj : i < ys.length := by omega
      rw [cmpFo_step hli hlj] at he
      repeat' (first|refine X.O ?_|refine X.A ?_|refine X.B ?_|refine X.C ?_|refine X.D ?_|refine X.E ?_|refine X.F ?_|refine X.G ?_|refine X.H ?_|refine X.I ?_|fail)
      refine WL.ixload (j := i) h' (List.getElem?_eq_getElem hlj) ?_
      intro p2 u2 hu2
      repeat' (first|refine X.O ?_|refine X.A ?_|refine X.B ?_|refine X.C ?_|refine X.D ?_|refine X.E ?_|refine X.F ?_|refine X.G ?_|refine X.H ?_|refine X.I ?_|fail)
      refine WL.step (o_callV (f := 94) (fst := []) (cap := []) (by rfl) (vs := [u, u2]) (compareTrees_eq hu hu2) ?_)
      rintro _ _ ⟨rfl, rfl⟩
      repeat' (first|refine X.O ?_|refine X.A ?_|refine X.B ?_|refine X.C ?_|refine X.D ?_|refine X.E ?_|refine X.F ?_|refine X.G ?_|refine X.H ?_|refine X.I ?_|fail)
      first|refine X.J (fun _ => ?_) (fun _ => ?_)|refine X.L (fun _ => ?_) (fun _ => ?_)|refine X.M (fun _ => ?_) (fun _ => ?_)|refine X.R (fun _ => ?_) (fun _ => ?_)|fail
      · rename_i hne
        rw [if_pos hne] at he
        repeat' (first|refine X.O ?_|refine X.A ?_|refine X.B ?_|refine X.C ?_|refine X.D ?_|refine X.E ?_|refine X.F ?_|refine X.G ?_|refine X.H ?_|refine X.I ?_|fail)
        refine ⟨_, ret1 rfl (by rfl), ?_⟩
        exact ⟨by rw [he], rfl⟩
      · rename_i hne
        rw [if_neg hne] at he
        repeat' (first|refine X.O ?_|refine X.A ?_|refine X.B ?_|refine X.C ?_|refine X.D ?_|refine X.E ?_|refine X.F ?_|refine X.G ?_|refine X.H ?_|refine X.I ?_|fail)
        exact ⟨i + 1, ⟨rfl, rfl, rfl, rfl, rfl, (by first|rfl|exact X.T (by omega)), trivial⟩, ⟨by omega, by omega, he, rfl⟩, by omega⟩
  · rename_i hge
    repeat' (first|refine X.O ?_|refine X.A ?_|refine X.B ?_|refine X.C ?_|refine X.D ?_|refine X.E ?_|refine X.F ?_|refine X.G ?_|refine X.H ?_|refine X.I ?_|fail)
    first|refine X.J (fun _ => ?_) (fun _ => ?_)|refine X.L (fun _ => ?_) (fun _ => ?_)|refine X.M (fun _ => ?_) (fun _ => ?_)|refine X.R (fun _ => ?_) (fun _ => ?_)|fail
    · rename_i hlt
      repeat' (first|refine X.O ?_|refine X.A ?_|refine X.B ?_|refine X.C ?_|refine X.D ?_|refine X.E ?_|refine X.F ?_|refine X.G ?_|refine X.H ?_|refine X.I ?_|fail)
      refine ⟨_, ret1 rfl (by rfl), ?_⟩
      exact ⟨by rw [he, cmpFo_right (by omega) (by omega)], rfl⟩
    · rename_i hlt
      repeat' (first|refine X.O ?_|refine X.A ?_|refine X.B ?_|refine X.C ?_|refine X.D ?_|refine X.E ?_|refine X.F ?_|refine X.G ?_|refine X.H ?_|refine X.I ?_|fail)
      refine ⟨_, ret1 rfl (by rfl), ?_⟩
      exact ⟨by rw [he, cmpFo_end (by omega) (by omega)], rfl⟩
theorem compareTrunks_eq {lo hi lo' hi' : Nat} {w : World} {v v' : Value} {xs ys : List (List Int)} (h : ISS lo hi w v xs) (h' : ISS lo' hi' w v' ys) :
    Does Try.prog 90 [v, v'] w fun r w' => r = .int .i64 (cmpTr xs ys) ∧ w = w' := by
  have hm := h.len
  have hm' := h'.len
  unfold maxLen at hm hm'
  obtain ⟨a, c, hv⟩ := h.shape
  obtain ⟨a', c', hv'⟩ := h'.shape
  subst hv hv'
  refine Does.enter Try.func90 Try.ntmps90 rfl (by rfl) ?_
  repeat' (first|refine X.O ?_|refine X.A ?_|refine X.B ?_|refine X.C ?_|refine X.D ?_|refine X.E ?_|refine X.F ?_|refine X.G ?_|refine X.H ?_|refine X.I ?_|fail)
  first|refine X.J (fun _ => ?_) (fun _ => ?_)|refine X.L (fun _ => ?_) (fun _ => ?_)|refine X.M (fun _ => ?_) (fun _ => ?_)|refine X.R (fun _ => ?_) (fun _ => ?_)|fail
  · rename_i hne
    repeat' (first|refine X.O ?_|refine X.A ?_|refine X.B ?_|refine X.C ?_|refine X.D ?_|refine X.E ?_|refine X.F ?_|refine X.G ?_|refine X.H ?_|refine X.I ?_|fail)
    refine ⟨_, ret1 rfl (by rfl), ?_⟩
    exact ⟨by unfold cmpTr; rw [if_pos (by omega)], rfl⟩
  · rename_i hne
    repeat' (first|refine X.O ?_|refine X.A ?_|refine X.B ?_|refine X.C ?_|refine X.D ?_|refine X.E ?_|refine X.F ?_|refine X.G ?_|refine X.H ?_|refine X.I ?_|fail)
    refine WL.call (CompareFunc_eq h h') ?_
    rintro _ _ ⟨rfl, rfl⟩
    repeat' (first|refine X.O ?_|refine X.A ?_|refine X.B ?_|refine X.C ?_|refine X.D ?_|refine X.E ?_|refine X.F ?_|refine X.G ?_|refine X.H ?_|refine X.I ?_|fail)
    refine ⟨_, ret1 rfl (by rfl), ?_⟩
    exact ⟨by unfold cmpTr; rw [if_neg (by omega)], rfl⟩
theorem compareForests_eq {lo hi lo' hi' : Nat} {w : World} {v v' : Value} {xs ys : List (List Int)} (h : ISS lo hi w v xs) (h' : ISS lo' hi' w v' ys) (hn : xs.flatten.length ≤ 1000000000) (hn' : ys.flatten.length ≤ 1000000000) :
    Does Try.prog 89 [v, v'] w fun r w' => r = .int .i64 (cmpF xs ys) ∧ w = w' := by
  refine Does.enter Try.func89 Try.ntmps89 rfl (by rfl) ?_
  repeat' (first|refine X.O ?_|refine X.A ?_|refine X.B ?_|refine X.C ?_|refine X.D ?_|refine X.E ?_|refine X.F ?_|refine X.G ?_|refine X.H ?_|refine X.I ?_|fail)
  refine WL.call (nodesIn_eq h hn) ?_
  rintro _ _ ⟨rfl, rfl⟩
  repeat' (first|refine X.O ?_|refine X.A ?_|refine X.B ?_|refine X.C ?_|refine X.D ?_|refine X.E ?_|refine X.F ?_|refine X.G ?_|refine X.H ?_|refine X.I ?_|fail)
  refine WL.call (nodesIn_eq h' hn') ?_
  rintro _ _ ⟨rfl, rfl⟩
  repeat' (first|refine X.O ?_|refine X.A ?_|refine X.B ?_|refine X.C ?_|refine X.D ?_|refine X.E ?_|refine X.F ?_|refine X.G ?_|refine X.H ?_|refine X.I ?_|fail)
  first|refine X.J (fun _ => ?_) (fun _ => ?_)|refine X.L (fun _ => ?_) (fun _ => ?_)|refine X.M (fun _ => ?_) (fun _ => ?_)|refine X.R (fun _ => ?_) (fun _ => ?_)|fail
  · rename_i hne
    repeat' (first|refine X.O ?_|refine X.A ?_|refine X.B ?_|refine X.C ?_|refine X.D ?_|refine X.E ?_|refine X.F ?_|refine X.G ?_|refine X.H ?_|refine X.I ?_|fail)
    refine ⟨_, ret1 rfl (by rfl), ?_⟩
    exact ⟨by unfold cmpF; rw [if_pos hne], rfl⟩
  · rename_i hne
    repeat' (first|refine X.O ?_|refine X.A ?_|refine X.B ?_|refine X.C ?_|refine X.D ?_|refine X.E ?_|refine X.F ?_|refine X.G ?_|refine X.H ?_|refine X.I ?_|fail)
    refine WL.call (compareTrunks_eq h h') ?_
    rintro _ _ ⟨rfl, rfl⟩
    repeat' (first|refine X.O ?_|refine X.A ?_|refine X.B ?_|refine X.C ?_|refine X.D ?_|refine X.E ?_|refine X.F ?_|refine X.G ?_|refine X.H ?_|refine X.I ?_|fail)
    refine ⟨_, ret1 rfl (by rfl), ?_⟩
    exact ⟨by unfold cmpF; rw [if_neg hne], rfl⟩
end Go.Proofs
/- The comparison of cuts. -/
namespace Go.Fw
open Go Go.RowKit
section
variable {P : Program} {N : Nat} {Q : Exit → Fr → World → Prop} {l : Fr} {w : World} {ops : Array Oper} {K : Fr → World → Prop}
variable {d : Nat} {ty : TypeId} {pos : String} {af : Array Edge} {g : Option (Nat × Bool)}
/-- A box, the world said exactly. -/
theorem o_boxE {t : TypeId} {x : Operand} {v : Value} (hx : ev l x = some v) (k : K ((d, .pointer (some ⟨w.heap.size, 0, none⟩)) :: l) (w.alloc (.cells v.cells t)))
    (hg : wantedL ops l g = some true := by rfl) (hd : Nat.blt d N = true := by rfl) : OpW P N ops Q ⟨some d, .box t x, ty, pos, af, g⟩ l w K :=
  OpW.val (fun fr ha => by simp [execOp, ha.ev hx, Instr.box, newVar, newRow]) k hg hd
end
theorem ISS.alloc {lo hi : Nat} {w : World} {v : Value} {xss : List (List Int)} (h : ISS lo hi w v xss) (o : Obj) : ISS lo hi (w.alloc o) v xss :=
  SL.below IS.stable h (below_alloc w o) h.hi_le
end Go.Fw
namespace Go.Proofs
open Go Go.Fw Go.RowKit Go.Rk
/-- Crown, trunk and number. -/
abbrev SplD := List (List Int) × List (List Int) × Int
def cmpS (x y : SplD) : Int := if cmpF x.1 y.1 ≠ 0 then cmpF x.1 y.1 else cmpTr x.2.1 y.2.1
theorem cutCmp_eq {lo hi lo2 hi2 lo' hi' lo2' hi2' : Nat} {w : World} {c t c' t' : Value} {n n' : Value} {x y : SplD} (hc : ISS lo hi w c x.1) (ht : ISS lo2 hi2 w t x.2.1) (hc' : ISS lo' hi' w c' y.1) (ht' : ISS lo2' hi2' w t' y.2.1)
    (hn : x.1.flatten.length ≤ 1000000000) (hn' : y.1.flatten.length ≤ 1000000000) :
    Does Try.prog 88 [.agg #[c, t, n], .agg #[c', t', n']] w fun r w' => r = .int .i64 (cmpS x y) ∧ ∃ o1 o2, w' = (w.alloc o1).alloc o2 := by
  refine Does.enter Try.func88 Try.ntmps88 rfl (by rfl) ?_
  repeat' (first|refine X.O ?_|refine X.A ?_|refine X.B ?_|refine X.C ?_|refine X.D ?_|refine X.E ?_|refine X.F ?_|refine X.G ?_|refine X.H ?_|refine X.I ?_|fail)
  refine WL.step (o_boxE (by rfl) ?_)
  refine WL.step (o_boxE (by rfl) ?_)
  obtain ⟨w2, hw2⟩ : ∃ w2, (w.alloc (.cells (Value.agg #[c, t, n]).cells 88)).alloc (.cells (Value.agg #[c', t', n']).cells 88) = w2 := ⟨_, rfl⟩
  have hz1 : (w.alloc (.cells (Value.agg #[c, t, n]).cells 88)).heap.size = w.heap.size + 1 := by simp
  have hb1 : Blk w2 w.heap.size [c, t, n] 88 := by
    rw [← hw2]
    exact (Blk.new w [c, t, n] _).below (below_alloc _ _) (by simp)
  have hb2 : Blk w2 (w.alloc (.cells (Value.agg #[c, t, n]).cells 88)).heap.size [c', t', n'] 88 := by
    rw [← hw2]
    exact Blk.new _ [c', t', n'] _
  have hC : ISS lo hi w2 c x.1 := by rw [← hw2]; exact ISS.alloc (ISS.alloc hc _) _
  have hT : ISS lo2 hi2 w2 t x.2.1 := by rw [← hw2]; exact ISS.alloc (ISS.alloc ht _) _
  have hC' : ISS lo' hi' w2 c' y.1 := by rw [← hw2]; exact ISS.alloc (ISS.alloc hc' _) _
  have hT' : ISS lo2' hi2' w2 t' y.2.1 := by rw [← hw2]; exact ISS.alloc (ISS.alloc ht' _) _
  have hex : ∃ o1 o2, w2 = (w.alloc o1).alloc o2 := ⟨_, _, hw2.symm⟩
  obtain ⟨b2, hb2e⟩ : ∃ b2, (w.alloc (.cells (Value.agg #[c, t, n]).cells 88)).heap.size = b2 := ⟨_, rfl⟩
  rw [hb2e] at hb2 ⊢
  rw [hw2]
  repeat' (first|refine X.O ?_|refine X.A ?_|refine X.B ?_|refine X.C ?_|refine X.D ?_|refine X.E ?_|refine X.F ?_|refine X.G ?_|refine X.H ?_|refine X.I ?_|fail)
  refine WL.fld hb1 ?_
  intro p1
  refine WL.fld hb2 ?_
  intro p2
  refine WL.call (compareForests_eq hC hC' hn hn') ?_
  rintro _ _ ⟨rfl, rfl⟩
  repeat' (first|refine X.O ?_|refine X.A ?_|refine X.B ?_|refine X.C ?_|refine X.D ?_|refine X.E ?_|refine X.F ?_|refine X.G ?_|refine X.H ?_|refine X.I ?_|fail)
  first|refine X.J (fun _ => ?_) (fun _ => ?_)|refine X.L (fun _ => ?_) (fun _ => ?_)|refine X.M (fun _ => ?_) (fun _ => ?_)|refine X.R (fun _ => ?_) (fun _ => ?_)|fail
  · rename_i hne
    repeat' (first|refine X.O ?_|refine X.A ?_|refine X.B ?_|refine X.C ?_|refine X.D ?_|refine X.E ?_|refine X.F ?_|refine X.G ?_|refine X.H ?_|refine X.I ?_|fail)
    refine ⟨_, ret1 rfl (by rfl), ?_⟩
    exact ⟨by unfold cmpS; rw [if_pos hne], hex⟩
  · rename_i hne
    repeat' (first|refine X.O ?_|refine X.A ?_|refine X.B ?_|refine X.C ?_|refine X.D ?_|refine X.E ?_|refine X.F ?_|refine X.G ?_|refine X.H ?_|refine X.I ?_|fail)
    refine WL.fld hb1 ?_
    intro p3
    refine WL.fld hb2 ?_
    intro p4
    refine WL.call (compareTrunks_eq hT hT') ?_
    rintro _ _ ⟨rfl, rfl⟩
    repeat' (first|refine X.O ?_|refine X.A ?_|refine X.B ?_|refine X.C ?_|refine X.D ?_|refine X.E ?_|refine X.F ?_|refine X.G ?_|refine X.H ?_|refine X.I ?_|fail)
    refine ⟨_, ret1 rfl (by rfl), ?_⟩
    exact ⟨by unfold cmpS; rw [if_neg hne], hex⟩
end Go.Proofs
/- Plain facts: the comparisons are total orders; a sorted rearrangement is one list. -/
namespace Go.Rk
open Go.Fw Go.Proofs
/-- A total order, as a comparison with three answers. -/
structure Ord3 {α : Type} (c : α → α → Int) : Prop where
  refl : ∀ a, c a a = 0
  eq : ∀ a b, c a b = 0 → a = b
  anti : ∀ a b, c a b < 0 ↔ 0 < c b a
  trans : ∀ a b d, c a b < 0 → c b d < 0 → c a d < 0
theorem Ord3.flip {α : Type} {c : α → α → Int} (h : Ord3 c) : Ord3 fun a b => c b a :=
  ⟨h.refl, fun a b e => (h.eq b a e).symm, fun a b => h.anti b a, fun a b d h1 h2 => h.trans d b a h2 h1⟩
theorem ord_cmpI : Ord3 cmpI := by
  refine ⟨fun a => ?_, fun a b h => ?_, fun a b => ?_, fun a b d h1 h2 => ?_⟩
  · unfold cmpI; rw [if_neg (by omega), if_neg (by omega)]
  · unfold cmpI at h; split at h
    · omega
    · split at h <;> omega
  · unfold cmpI; split <;> split <;> (try split) <;> omega
  · unfold cmpI at *
    split at h1
    · split at h2
      · rw [if_pos (by omega)]; omega
      · split at h2 <;> omega
    · split at h1 <;> omega
/-- By a key first. -/
theorem Ord3.key {α : Type} {c : α → α → Int} (h : Ord3 c) (k : α → Int) : Ord3 fun a b => if k a - k b ≠ 0 then k a - k b else c a b := by
  refine ⟨fun a => ?_, fun a b e => ?_, fun a b => ?_, fun a b d h1 h2 => ?_⟩
  · (try dsimp only); rw [if_neg (by omega)]; exact h.refl a
  · (try dsimp only at e)
    split at e
    · omega
    · exact h.eq a b e
  · (try dsimp only)
    by_cases e : k a - k b = 0
    · rw [if_neg (by omega), if_neg (by omega)]; exact h.anti a b
    · rw [if_pos (by omega), if_pos (by omega)]; omega
  · (try dsimp only at *)
    by_cases e1 : k a - k b = 0
    · rw [if_neg (by omega)] at h1
      by_cases e2 : k b - k d = 0
      · rw [if_neg (by omega)] at h2
        rw [if_neg (by omega)]
        exact h.trans a b d h1 h2
      · rw [if_pos e2] at h2
        rw [if_pos (by omega)]; omega
    · rw [if_pos e1] at h1
      by_cases e2 : k b - k d = 0
      · rw [if_pos (by omega)]; omega
      · rw [if_pos e2] at h2
        rw [if_pos (by omega)]; omega
/-- One after the other. -/
theorem Ord3.pair {α β : Type} {c : α → α → Int} {c' : β → β → Int} (h : Ord3 c) (h' : Ord3 c') : Ord3 fun (x y : α × β) => if c x.1 y.1 ≠ 0 then c x.1 y.1 else c' x.2 y.2 := by
  have z : ∀ a b, c a b = 0 ↔ c b a = 0 := fun a b => ⟨fun e => by rw [h.eq a b e]; exact h.refl b, fun e => by rw [h.eq b a e]; exact h.refl a⟩
  refine ⟨fun a => ?_, fun a b e => ?_, fun a b => ?_, fun a b d h1 h2 => ?_⟩
  · (try dsimp only); rw [if_neg (by rw [h.refl]; omega)]; exact h'.refl _
  · (try dsimp only at e)
    split at e
    · omega
    · rename_i e0
      exact Prod.ext (h.eq _ _ (by omega)) (h'.eq _ _ e)
  · (try dsimp only)
    by_cases e : c a.1 b.1 = 0
    · rw [if_neg (by omega), if_neg (by have := (z a.1 b.1).1 e; omega)]; exact h'.anti _ _
    · rw [if_pos e, if_pos (fun e2 => e ((z b.1 a.1).1 e2))]; exact h.anti _ _
  · (try dsimp only at *)
    by_cases e1 : c a.1 b.1 = 0
    · rw [if_neg (by omega)] at h1
      have ea := h.eq _ _ e1
      by_cases e2 : c b.1 d.1 = 0
      · rw [if_neg (by omega)] at h2
        rw [if_neg (by rw [ea, e2]; omega)]
        exact h'.trans _ _ _ h1 h2
      · rw [if_pos e2] at h2
        rw [ea, if_pos e2]; exact h2
    · rw [if_pos e1] at h1
      by_cases e2 : c b.1 d.1 = 0
      · have eb := h.eq _ _ e2
        rw [← eb, if_pos e1]; exact h1
      · rw [if_pos e2] at h2
        have := h.trans _ _ _ h1 h2
        rw [if_pos (by omega)]; exact this
/-- Lists, element by element, the shorter first. -/
def lexL {α : Type} (c : α → α → Int) : List α → List α → Int
  | [], [] => 0
  | [], _ :: _ => -1
  | _ :: _, [] => 1
  | x :: xs, y :: ys => if c x y ≠ 0 then c x y else lexL c xs ys
theorem Ord3.lex {α : Type} {c : α → α → Int} (h : Ord3 c) : Ord3 (lexL c) := by
  have z : ∀ a b, c a b = 0 ↔ c b a = 0 := fun a b => ⟨fun e => by rw [h.eq a b e]; exact h.refl b, fun e => by rw [h.eq b a e]; exact h.refl a⟩
  refine ⟨fun a => ?_, fun a => ?_, fun a => ?_, fun a => ?_⟩
  · induction a with
    | nil => rfl
    | cons x xs ih => rw [lexL, if_neg (by rw [h.refl]; omega)]; exact ih
  · induction a with
    | nil => intro b e; cases b with
      | nil => rfl
      | cons y ys => rw [lexL] at e; omega
    | cons x xs ih => intro b e; cases b with
      | nil => rw [lexL] at e; omega
      | cons y ys =>
        rw [lexL] at e
        split at e
        · omega
        · rw [h.eq x y (by omega), ih ys e]
  · induction a with
    | nil => intro b; cases b with
      | nil => simp [lexL]
      | cons y ys => simp [lexL]
    | cons x xs ih => intro b; cases b with
      | nil => simp [lexL]
      | cons y ys =>
        rw [lexL, lexL]
        by_cases e : c x y = 0
        · rw [if_neg (by omega), if_neg (by have := (z x y).1 e; omega)]; exact ih ys
        · rw [if_pos e, if_pos (fun e2 => e ((z y x).1 e2))]; exact h.anti x y
  · induction a with
    | nil => intro b d h1 h2; cases b with
      | nil => simp [lexL] at h1
      | cons y ys => cases d with
        | nil => simp [lexL] at h2
        | cons u us => simp [lexL]
    | cons x xs ih => intro b d h1 h2; cases b with
      | nil => simp [lexL] at h1
      | cons y ys => cases d with
        | nil => simp [lexL] at h2
        | cons u us =>
          rw [lexL] at h1 h2 ⊢
          by_cases e1 : c x y = 0
          · rw [if_neg (by omega)] at h1
            have ea := h.eq _ _ e1
            by_cases e2 : c y u = 0
            · rw [if_neg (by omega)] at h2
              rw [if_neg (by rw [ea, e2]; omega)]
              exact ih _ _ h1 h2
            · rw [if_pos e2] at h2
              rw [ea, if_pos e2]; exact h2
          · rw [if_pos e1] at h1
            by_cases e2 : c y u = 0
            · have eb := h.eq _ _ e2
              rw [← eb, if_pos e1]; exact h1
            · rw [if_pos e2] at h2
              have := h.trans _ _ _ h1 h2
              rw [if_pos (by omega)]; exact this
theorem cmpL_lex : ∀ a b, cmpL a b = lexL cmpI a b
  | [], [] => rfl
  | [], _ :: _ => rfl
  | _ :: _, [] => rfl
  | x :: xs, y :: ys => by rw [cmpL, lexL, cmpL_lex xs ys]
theorem ord_cmpL : Ord3 cmpL := by rw [show cmpL = lexL cmpI from funext fun a => funext fun b => cmpL_lex a b]; exact ord_cmpI.lex
theorem ord_cmpT : Ord3 cmpT := by
  have h := ord_cmpL.flip.key fun a => (a.length : Int)
  have e : cmpT = fun a b => if (a.length : Int) - b.length ≠ 0 then (a.length : Int) - b.length else cmpL b a := funext fun a => funext fun b => by
    unfold cmpT
    by_cases hl : a.length = b.length
    · rw [if_neg (by omega), if_neg (by omega)]
    · rw [if_pos hl, if_pos (by omega)]
  rw [e]; exact h
theorem cmpFo_lex : ∀ a b, cmpFo a b = lexL cmpT a b
  | [], [] => rfl
  | [], _ :: _ => rfl
  | _ :: _, [] => rfl
  | x :: xs, y :: ys => by rw [cmpFo, lexL, cmpFo_lex xs ys]
theorem ord_cmpTr : Ord3 cmpTr := by
  have h0 : Ord3 cmpFo := by rw [show cmpFo = lexL cmpT from funext fun a => funext fun b => cmpFo_lex a b]; exact ord_cmpT.lex
  have h := h0.key fun a => (a.length : Int)
  have e : cmpTr = fun a b => if (a.length : Int) - b.length ≠ 0 then (a.length : Int) - b.length else cmpFo a b := funext fun a => funext fun b => by
    unfold cmpTr
    by_cases hl : a.length = b.length
    · rw [if_neg (by omega), if_neg (by omega)]
    · rw [if_pos hl, if_pos (by omega)]
  rw [e]; exact h
theorem ord_cmpF : Ord3 cmpF := ord_cmpTr.key fun a => (a.flatten.length : Int)
/-- Cuts by crown and trunk. -/
theorem ord_cut : Ord3 fun (x y : List (List Int) × List (List Int)) => if cmpF x.1 y.1 ≠ 0 then cmpF x.1 y.1 else cmpTr x.2 y.2 := ord_cmpF.pair ord_cmpTr
/-- A sorted rearrangement is one list. -/
theorem Ord3.unique {α : Type} {c : α → α → Int} (h : Ord3 c) : ∀ {a b : List α}, a.Perm b → a.Pairwise (fun x y => c x y ≤ 0) → b.Pairwise (fun x y => c x y ≤ 0) → a = b
  | [], b, hp, _, _ => by rw [List.nil_perm.1 hp]
  | x :: a, [], hp, _, _ => by have := hp.length_eq; simp at this
  | x :: a, y :: b, hp, ha, hb => by
    have hxy : x = y := by
      have hx : x ∈ y :: b := hp.mem_iff.1 (by simp)
      have hy : y ∈ x :: a := hp.mem_iff.2 (by simp)
      rcases List.mem_cons.1 hx with e | hx
      · exact e
      · rcases List.mem_cons.1 hy with e | hy
        · exact e.symm
        · have h1 := (List.pairwise_cons.1 ha).1 y hy
          have h2 := (List.pairwise_cons.1 hb).1 x hx
          by_cases e : c x y = 0
          · exact h.eq x y e
          · have := (h.anti x y).1 (by omega)
            omega
    subst hxy
    rw [h.unique (List.perm_cons x |>.1 hp) (List.pairwise_cons.1 ha).2 (List.pairwise_cons.1 hb).2]
end Go.Rk
/- A total order pays what the kit's sort asks of a comparison. -/
namespace Go.Rk
open Go.Fw Go.Proofs
theorem swo_ord {α β : Type} {c : α → α → Int} (h : Ord3 c) (f : β → α) : Go.Sort.SWO (Go.Proofs.ltOf fun x y => c (f x) (f y)) := by
  refine ⟨fun x => ?_, fun x y z h1 h2 => ?_, fun x y z h1 h2 => ?_⟩
  · show decide (c (f x) (f x) < 0) = false
    rw [h.refl]; rfl
  · have a1 : c (f x) (f y) < 0 := of_decide_eq_true h1
    have a2 : c (f y) (f z) < 0 := of_decide_eq_true h2
    exact decide_eq_true (h.trans _ _ _ a1 a2)
  · have a1 : ¬ c (f x) (f y) < 0 := of_decide_eq_false h1
    have a2 : ¬ c (f y) (f z) < 0 := of_decide_eq_false h2
    refine decide_eq_false fun (h3 : c (f x) (f z) < 0) => ?_
    by_cases e : c (f x) (f y) = 0
    · rw [h.eq _ _ e] at h3; exact a2 h3
    · have := (h.anti (f y) (f x)).2 (by omega)
      exact a2 (h.trans _ _ _ this h3)
end Go.Rk
