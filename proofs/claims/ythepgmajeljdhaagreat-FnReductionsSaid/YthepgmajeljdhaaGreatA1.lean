/- Numbers of the field, lists of them, and maps: what the program's and the reference's functions compute. -/
import Derived.Test.YthepgmajeljdhaaGreatHB
import Derived.Test.YthepgmajeljdhaaGreatPlA
namespace Go.Proofs
open Go Go.Fw Go.RowKit Go.Rk

theorem inRange_any (n lo hi : Int) (w : World) : Does Tryz.prog 65 [.int .i64 n, .int .i64 lo, .int .i64 hi] w fun v w' => v = .bool (decide (lo ≤ n ∧ n ≤ hi)) ∧ Still w w' := by
  refine Does.enter Tryz.func65 Tryz.ntmps65 rfl (by rfl) ?_
  repeat' (first|refine X.O ?_|refine X.A ?_|refine X.B ?_|refine X.C ?_|refine X.D ?_|refine X.E ?_|refine X.F ?_|refine X.G ?_|refine X.H ?_|refine X.I ?_|fail | (first | refine WL.gsplitD (by rfl) (by rfl) (by rfl) (fun _ => ?_) (fun _ => ?_) | refine WL.gsplitND (by rfl) (by rfl) (by rfl) (fun _ => ?_) (fun _ => ?_) | refine WL.gsplitN (by rfl) (by rfl) (by rfl) (fun _ => ?_) (fun _ => ?_) | refine WL.gsplit (by rfl) (by rfl) (by rfl) (fun _ => ?_) (fun _ => ?_) | fail) | (first|refine X.J (fun _ => ?_) (fun _ => ?_)|refine X.L (fun _ => ?_) (fun _ => ?_)|refine X.M (fun _ => ?_) (fun _ => ?_)|refine X.R (fun _ => ?_) (fun _ => ?_)|fail))
  all_goals (refine ⟨_, ret1 rfl (by rfl), ?_⟩; refine ⟨?_, Still.refl _⟩; simp; try omega)
theorem l01In_any (n lo hi : Int) (w : World) : Does Tryz.prog 129 [.int .i64 n, .int .i64 lo, .int .i64 hi] w fun v w' => v = .bool (decide (lo ≤ n ∧ n ≤ hi)) ∧ Still w w' := by
  refine Does.enter Tryz.func129 Tryz.ntmps129 rfl (by rfl) ?_
  repeat' (first|refine X.O ?_|refine X.A ?_|refine X.B ?_|refine X.C ?_|refine X.D ?_|refine X.E ?_|refine X.F ?_|refine X.G ?_|refine X.H ?_|refine X.I ?_|fail | (first | refine WL.gsplitD (by rfl) (by rfl) (by rfl) (fun _ => ?_) (fun _ => ?_) | refine WL.gsplitND (by rfl) (by rfl) (by rfl) (fun _ => ?_) (fun _ => ?_) | refine WL.gsplitN (by rfl) (by rfl) (by rfl) (fun _ => ?_) (fun _ => ?_) | refine WL.gsplit (by rfl) (by rfl) (by rfl) (fun _ => ?_) (fun _ => ?_) | fail) | (first|refine X.J (fun _ => ?_) (fun _ => ?_)|refine X.L (fun _ => ?_) (fun _ => ?_)|refine X.M (fun _ => ?_) (fun _ => ?_)|refine X.R (fun _ => ?_) (fun _ => ?_)|fail))
  all_goals (refine ⟨_, ret1 rfl (by rfl), ?_⟩; refine ⟨?_, Still.refl _⟩; simp; try omega)
theorem IsNumber_any (n : Int) (w : World) : Does Tryz.prog 106 [.int .i64 n] w fun v w' => v = .bool (isN n) ∧ Still w w' := by
  refine Does.enter Tryz.func106 Tryz.ntmps106 rfl (by rfl) ?_
  repeat' (first|refine X.O ?_|refine X.A ?_|refine X.B ?_|refine X.C ?_|refine X.D ?_|refine X.E ?_|refine X.F ?_|refine X.G ?_|refine X.H ?_|refine X.I ?_|fail)
  refine WL.call (inRange_any _ _ _ _) ?_
  rintro _ w1 ⟨rfl, hs⟩
  repeat' (first|refine X.O ?_|refine X.A ?_|refine X.B ?_|refine X.C ?_|refine X.D ?_|refine X.E ?_|refine X.F ?_|refine X.G ?_|refine X.H ?_|refine X.I ?_|fail)
  refine ⟨_, ret1 rfl (by rfl), ?_⟩
  exact ⟨by rw [isN_def], hs⟩
theorem sIsNumber_any (n : Int) (w : World) : Does Tryz.prog 111 [.int .i64 n] w fun v w' => v = .bool (isN n) ∧ Still w w' := by
  refine Does.enter Tryz.func111 Tryz.ntmps111 rfl (by rfl) ?_
  repeat' (first|refine X.O ?_|refine X.A ?_|refine X.B ?_|refine X.C ?_|refine X.D ?_|refine X.E ?_|refine X.F ?_|refine X.G ?_|refine X.H ?_|refine X.I ?_|fail)
  refine WL.call (l01In_any _ _ _ _) ?_
  rintro _ w1 ⟨rfl, hs⟩
  repeat' (first|refine X.O ?_|refine X.A ?_|refine X.B ?_|refine X.C ?_|refine X.D ?_|refine X.E ?_|refine X.F ?_|refine X.G ?_|refine X.H ?_|refine X.I ?_|fail)
  refine ⟨_, ret1 rfl (by rfl), ?_⟩
  exact ⟨by rw [isN_def], hs⟩
theorem num_any (n : Int) (w : World) : Does Tryz.prog 87 [.int .i64 n] w fun v w' => v = .int .i64 (nm n) ∧ w = w' := by
  have hb := tmod_bd n
  refine Does.enter Tryz.func87 Tryz.ntmps87 rfl (by rfl) ?_
  repeat' (first|refine X.O ?_|refine X.A ?_|refine X.B ?_|refine X.C ?_|refine X.D ?_|refine X.E ?_|refine X.F ?_|refine X.G ?_|refine X.H ?_|refine X.I ?_|fail)
  refine WL.step (o_rem (by rfl) (by rfl) (by decide) ?_)
  repeat' (first|refine X.O ?_|refine X.A ?_|refine X.B ?_|refine X.C ?_|refine X.D ?_|refine X.E ?_|refine X.F ?_|refine X.G ?_|refine X.H ?_|refine X.I ?_|fail)
  refine WL.step (o_rem (by rfl) (by rfl) (by decide) ?_)
  repeat' (first|refine X.O ?_|refine X.A ?_|refine X.B ?_|refine X.C ?_|refine X.D ?_|refine X.E ?_|refine X.F ?_|refine X.G ?_|refine X.H ?_|refine X.I ?_|fail)
  refine ⟨_, ret1 rfl (by rfl), ?_⟩
  exact ⟨by rw [nm_tmod], rfl⟩
theorem l01Mod_any (n : Int) (w : World) : Does Tryz.prog 103 [.int .i64 n] w fun v w' => v = .int .i64 (nm n) ∧ w = w' := by
  have hb := tmod_bd n
  refine Does.enter Tryz.func103 Tryz.ntmps103 rfl (by rfl) ?_
  repeat' (first|refine X.O ?_|refine X.A ?_|refine X.B ?_|refine X.C ?_|refine X.D ?_|refine X.E ?_|refine X.F ?_|refine X.G ?_|refine X.H ?_|refine X.I ?_|fail)
  refine WL.step (o_rem (by rfl) (by rfl) (by decide) ?_)
  repeat' (first|refine X.O ?_|refine X.A ?_|refine X.B ?_|refine X.C ?_|refine X.D ?_|refine X.E ?_|refine X.F ?_|refine X.G ?_|refine X.H ?_|refine X.I ?_|fail)
  refine WL.step (o_rem (by rfl) (by rfl) (by decide) ?_)
  repeat' (first|refine X.O ?_|refine X.A ?_|refine X.B ?_|refine X.C ?_|refine X.D ?_|refine X.E ?_|refine X.F ?_|refine X.G ?_|refine X.H ?_|refine X.I ?_|fail)
  refine ⟨_, ret1 rfl (by rfl), ?_⟩
  exact ⟨by rw [nm_tmod], rfl⟩
theorem l01Add_any (a b : Int) (w : World) (h : InI (a + b)) : Does Tryz.prog 77 [.int .i64 a, .int .i64 b] w fun v w' => v = .int .i64 (nm (a + b)) ∧ w = w' := by
  unfold InI at h
  refine Does.enter Tryz.func77 Tryz.ntmps77 rfl (by rfl) ?_
  repeat' (first|refine X.O ?_|refine X.A ?_|refine X.B ?_|refine X.C ?_|refine X.D ?_|refine X.E ?_|refine X.F ?_|refine X.G ?_|refine X.H ?_|refine X.I ?_|fail)
  refine WL.call (l01Mod_any _ _) ?_
  rintro _ _ ⟨rfl, rfl⟩
  repeat' (first|refine X.O ?_|refine X.A ?_|refine X.B ?_|refine X.C ?_|refine X.D ?_|refine X.E ?_|refine X.F ?_|refine X.G ?_|refine X.H ?_|refine X.I ?_|fail)
  refine ⟨_, ret1 rfl (by rfl), ?_⟩
  exact ⟨rfl, rfl⟩
theorem l01Sub_any (a b : Int) (w : World) (h : InI (a - b)) : Does Tryz.prog 60 [.int .i64 a, .int .i64 b] w fun v w' => v = .int .i64 (nm (a - b)) ∧ w = w' := by
  unfold InI at h
  refine Does.enter Tryz.func60 Tryz.ntmps60 rfl (by rfl) ?_
  repeat' (first|refine X.O ?_|refine X.A ?_|refine X.B ?_|refine X.C ?_|refine X.D ?_|refine X.E ?_|refine X.F ?_|refine X.G ?_|refine X.H ?_|refine X.I ?_|fail)
  refine WL.call (l01Mod_any _ _) ?_
  rintro _ _ ⟨rfl, rfl⟩
  repeat' (first|refine X.O ?_|refine X.A ?_|refine X.B ?_|refine X.C ?_|refine X.D ?_|refine X.E ?_|refine X.F ?_|refine X.G ?_|refine X.H ?_|refine X.I ?_|fail)
  refine ⟨_, ret1 rfl (by rfl), ?_⟩
  exact ⟨rfl, rfl⟩
theorem l01Mul_any (a b : Int) (w : World) (h : InI (a * b)) : Does Tryz.prog 118 [.int .i64 a, .int .i64 b] w fun v w' => v = .int .i64 (nm (a * b)) ∧ w = w' := by
  refine Does.enter Tryz.func118 Tryz.ntmps118 rfl (by rfl) ?_
  repeat' (first|refine X.O ?_|refine X.A ?_|refine X.B ?_|refine X.C ?_|refine X.D ?_|refine X.E ?_|refine X.F ?_|refine X.G ?_|refine X.H ?_|refine X.I ?_|fail)
  refine WL.step (o_mul (by rfl) (by rfl) h ?_)
  refine WL.call (l01Mod_any _ _) ?_
  rintro _ _ ⟨rfl, rfl⟩
  repeat' (first|refine X.O ?_|refine X.A ?_|refine X.B ?_|refine X.C ?_|refine X.D ?_|refine X.E ?_|refine X.F ?_|refine X.G ?_|refine X.H ?_|refine X.I ?_|fail)
  refine ⟨_, ret1 rfl (by rfl), ?_⟩
  exact ⟨rfl, rfl⟩

theorem areNumbers1_any (n : Int) (w : World) : Does Tryz.prog 105 [.int .i64 n] w fun v w' => v = .bool (!isN n) ∧ Still w w' := by
  refine Does.enter Tryz.func105 Tryz.ntmps105 rfl (by rfl) ?_
  repeat' (first|refine X.O ?_|refine X.A ?_|refine X.B ?_|refine X.C ?_|refine X.D ?_|refine X.E ?_|refine X.F ?_|refine X.G ?_|refine X.H ?_|refine X.I ?_|fail)
  refine WL.call (IsNumber_any _ _) ?_
  rintro _ w1 ⟨rfl, hs⟩
  repeat' (first|refine X.O ?_|refine X.A ?_|refine X.B ?_|refine X.C ?_|refine X.D ?_|refine X.E ?_|refine X.F ?_|refine X.G ?_|refine X.H ?_|refine X.I ?_|fail)
  refine ⟨_, ret1 rfl (by rfl), ?_⟩
  exact ⟨rfl, hs⟩
theorem idxFrom_drop {α : Type} (p : α → Bool) {xs : List α} {i : Nat} (h : i < xs.length) : idxFrom p i (xs.drop i) = if p xs[i] then (i : Int) else idxFrom p ((i + 1 : Nat) : Int) (xs.drop (i + 1)) := by
  rw [List.drop_eq_getElem_cons h, idxFrom]; rfl

theorem IndexFunc_int {lo hi : Nat} {w : World} {v : Value} {xs : List Int} {f : FuncId} [FuncTy Tryz.prog f] {cap : List Value} (p : Int → Bool) (h : IS lo hi w v xs)
    (hp : ∀ x ∈ xs, ∀ w', Still w w' → Does Tryz.prog f ([.int .i64 x] ++ cap) w' fun r w'' => r = .bool (p x) ∧ Still w' w'') :
    Does Tryz.prog 113 [v, .func (.func f) #[] cap.toArray] w fun r w' => r = .int .i64 (idxFrom p 0 xs) ∧ Still w w' := by
  obtain ⟨a, c, hv⟩ := h.shape
  rw [hv] at h ⊢
  have hm := h.len
  unfold maxLen at hm
  refine Does.enter Tryz.func113 Tryz.ntmps113 rfl (by rfl) ?_
  repeat' (first|refine X.O ?_|refine X.A ?_|refine X.B ?_|refine X.C ?_|refine X.D ?_|refine X.E ?_|refine X.F ?_|refine X.G ?_|refine X.H ?_|refine X.I ?_|fail)
  refine WP.loop (fun i => [(0, .slice a xs.length c), (1, .func (.func f) #[] cap.toArray), (7, .int .i64 xs.length), (8, .int .i64 (i : Nat))]) (fun i w2 => i ≤ xs.length ∧ idxFrom p 0 xs = idxFrom p (i : Nat) (xs.drop i) ∧ Still w w2)
    (fun i => xs.length - i) 0 ⟨rfl, rfl, rfl, rfl, trivial⟩ ⟨by omega, by simp, Still.refl _⟩ ?_
  rintro i w2 ⟨hi, hq, hs⟩
  repeat' (first|refine X.O ?_|refine X.A ?_|refine X.B ?_|refine X.C ?_|refine X.D ?_|refine X.E ?_|refine X.F ?_|refine X.G ?_|refine X.H ?_|refine X.I ?_|fail)
  first|refine X.J (fun _ => ?_) (fun _ => ?_)|refine X.L (fun _ => ?_) (fun _ => ?_)|refine X.M (fun _ => ?_) (fun _ => ?_)|refine X.R (fun _ => ?_) (fun _ => ?_)|fail
  · rename_i hlt
    have hlt' : i < xs.length := by omega
    repeat' (first|refine X.O ?_|refine X.A ?_|refine X.B ?_|refine X.C ?_|refine X.D ?_|refine X.E ?_|refine X.F ?_|refine X.G ?_|refine X.H ?_|refine X.I ?_|fail)
    refine WL.ixload (h.still RI.stable hs) (List.getElem?_eq_getElem hlt') ?_
    rintro p1 _ rfl
    refine WL.step (o_callV (f := f) (fst := []) (cap := cap) (by rfl) (hp _ (List.getElem_mem hlt') w2 hs) ?_)
    rintro _ w3 ⟨rfl, hs3⟩
    repeat' (first|refine X.O ?_|refine X.A ?_|refine X.B ?_|refine X.C ?_|refine X.D ?_|refine X.E ?_|refine X.F ?_|refine X.G ?_|refine X.H ?_|refine X.I ?_|fail)
    rw [idxFrom_drop p hlt'] at hq
    first|refine X.J (fun _ => ?_) (fun _ => ?_)|refine X.L (fun _ => ?_) (fun _ => ?_)|refine X.M (fun _ => ?_) (fun _ => ?_)|refine X.R (fun _ => ?_) (fun _ => ?_)|fail
    · rename_i hpx
      repeat' (first|refine X.O ?_|refine X.A ?_|refine X.B ?_|refine X.C ?_|refine X.D ?_|refine X.E ?_|refine X.F ?_|refine X.G ?_|refine X.H ?_|refine X.I ?_|fail)
      refine ⟨_, ret1 rfl (by rfl), ?_⟩
      rw [hpx] at hq
      exact ⟨by rw [hq]; rfl, hs.trans hs3⟩
    · rename_i hpx
      rw [hpx] at hq
      repeat' (first|refine X.O ?_|refine X.A ?_|refine X.B ?_|refine X.C ?_|refine X.D ?_|refine X.E ?_|refine X.F ?_|refine X.G ?_|refine X.H ?_|refine X.I ?_|fail)
      exact ⟨i + 1, ⟨rfl, rfl, rfl, rfl, trivial⟩, ⟨by omega, hq, hs.trans hs3⟩, by omega⟩
  · rename_i hge
    have : i = xs.length := by omega
    subst this
    repeat' (first|refine X.O ?_|refine X.A ?_|refine X.B ?_|refine X.C ?_|refine X.D ?_|refine X.E ?_|refine X.F ?_|refine X.G ?_|refine X.H ?_|refine X.I ?_|fail)
    refine ⟨_, ret1 rfl (by rfl), ?_⟩
    simp [idxFrom] at hq
    exact ⟨by rw [hq], hs⟩
theorem ContainsFunc_int {lo hi : Nat} {w : World} {v : Value} {xs : List Int} {f : FuncId} [FuncTy Tryz.prog f] {cap : List Value} (p : Int → Bool) (h : IS lo hi w v xs)
    (hp : ∀ x ∈ xs, ∀ w', Still w w' → Does Tryz.prog f ([.int .i64 x] ++ cap) w' fun r w'' => r = .bool (p x) ∧ Still w' w'') :
    Does Tryz.prog 104 [v, .func (.func f) #[] cap.toArray] w fun r w' => r = .bool (xs.any p) ∧ Still w w' := by
  refine Does.enter Tryz.func104 Tryz.ntmps104 rfl (by rfl) ?_
  repeat' (first|refine X.O ?_|refine X.A ?_|refine X.B ?_|refine X.C ?_|refine X.D ?_|refine X.E ?_|refine X.F ?_|refine X.G ?_|refine X.H ?_|refine X.I ?_|fail)
  refine WL.call (IndexFunc_int p h hp) ?_
  rintro _ w1 ⟨rfl, hs⟩
  repeat' (first|refine X.O ?_|refine X.A ?_|refine X.B ?_|refine X.C ?_|refine X.D ?_|refine X.E ?_|refine X.F ?_|refine X.G ?_|refine X.H ?_|refine X.I ?_|fail)
  refine ⟨_, ret1 rfl (by rfl), ?_⟩
  refine ⟨?_, hs⟩
  refine congrArg Value.bool ?_
  rw [Bool.eq_iff_iff, decide_eq_true_iff]
  exact idxFrom_lt p xs 0 (by omega)
theorem areNumbers_any {lo hi : Nat} {w : World} {v : Value} {xs : List Int} (h : IS lo hi w v xs) : Does Tryz.prog 67 [v] w fun r w' => r = .bool (allN xs) ∧ Still w w' := by
  refine Does.enter Tryz.func67 Tryz.ntmps67 rfl (by rfl) ?_
  repeat' (first|refine X.O ?_|refine X.A ?_|refine X.B ?_|refine X.C ?_|refine X.D ?_|refine X.E ?_|refine X.F ?_|refine X.G ?_|refine X.H ?_|refine X.I ?_|fail)
  refine WL.call (ContainsFunc_int (f := 105) (cap := []) (fun x => !isN x) h (fun x _ w' _ => areNumbers1_any x w')) ?_
  rintro _ w1 ⟨rfl, hs⟩
  repeat' (first|refine X.O ?_|refine X.A ?_|refine X.B ?_|refine X.C ?_|refine X.D ?_|refine X.E ?_|refine X.F ?_|refine X.G ?_|refine X.H ?_|refine X.I ?_|fail)
  refine ⟨_, ret1 rfl (by rfl), ?_⟩
  exact ⟨by rw [isN_not_any], hs⟩
theorem l01Numbers_any {lo hi : Nat} {w : World} {v : Value} {xs : List Int} (h : IS lo hi w v xs) : Does Tryz.prog 74 [v] w fun r w' => r = .bool (allN xs) ∧ Still w w' := by
  obtain ⟨a, c, hv⟩ := h.shape
  rw [hv] at h ⊢
  have hm := h.len
  unfold maxLen at hm
  refine Does.enter Tryz.func74 Tryz.ntmps74 rfl (by rfl) ?_
  repeat' (first|refine X.O ?_|refine X.A ?_|refine X.B ?_|refine X.C ?_|refine X.D ?_|refine X.E ?_|refine X.F ?_|refine X.G ?_|refine X.H ?_|refine X.I ?_|fail)
  refine WP.loop (fun i => [(0, .slice a xs.length c), (3, .int .i64 (i : Nat))]) (fun i w2 => i ≤ xs.length ∧ allN xs = allN (xs.drop i) ∧ Still w w2)
    (fun i => xs.length - i) 0 ⟨rfl, rfl, trivial⟩ ⟨by omega, by simp, Still.refl _⟩ ?_
  rintro i w2 ⟨hi, hq, hs⟩
  repeat' (first|refine X.O ?_|refine X.A ?_|refine X.B ?_|refine X.C ?_|refine X.D ?_|refine X.E ?_|refine X.F ?_|refine X.G ?_|refine X.H ?_|refine X.I ?_|fail)
  first|refine X.J (fun _ => ?_) (fun _ => ?_)|refine X.L (fun _ => ?_) (fun _ => ?_)|refine X.M (fun _ => ?_) (fun _ => ?_)|refine X.R (fun _ => ?_) (fun _ => ?_)|fail
  · rename_i hlt
    have hlt' : i < xs.length := by omega
    rw [List.drop_eq_getElem_cons hlt'] at hq
    repeat' (first|refine X.O ?_|refine X.A ?_|refine X.B ?_|refine X.C ?_|refine X.D ?_|refine X.E ?_|refine X.F ?_|refine X.G ?_|refine X.H ?_|refine X.I ?_|fail)
    refine WL.ixload (h.still RI.stable hs) (List.getElem?_eq_getElem hlt') ?_
    rintro p1 _ rfl
    refine WL.call (sIsNumber_any _ _) ?_
    rintro _ w3 ⟨rfl, hs3⟩
    repeat' (first|refine X.O ?_|refine X.A ?_|refine X.B ?_|refine X.C ?_|refine X.D ?_|refine X.E ?_|refine X.F ?_|refine X.G ?_|refine X.H ?_|refine X.I ?_|fail)
    first|refine X.J (fun _ => ?_) (fun _ => ?_)|refine X.L (fun _ => ?_) (fun _ => ?_)|refine X.M (fun _ => ?_) (fun _ => ?_)|refine X.R (fun _ => ?_) (fun _ => ?_)|fail
    · rename_i hpx
      repeat' (first|refine X.O ?_|refine X.A ?_|refine X.B ?_|refine X.C ?_|refine X.D ?_|refine X.E ?_|refine X.F ?_|refine X.G ?_|refine X.H ?_|refine X.I ?_|fail)
      refine ⟨_, ret1 rfl (by rfl), ?_⟩
      exact ⟨by rw [hq, allN_cons, hpx]; rfl, hs.trans hs3⟩
    · rename_i hpx
      repeat' (first|refine X.O ?_|refine X.A ?_|refine X.B ?_|refine X.C ?_|refine X.D ?_|refine X.E ?_|refine X.F ?_|refine X.G ?_|refine X.H ?_|refine X.I ?_|fail)
      exact ⟨i + 1, ⟨rfl, rfl, trivial⟩, ⟨by omega, by rw [hq, allN_cons, hpx]; rfl, hs.trans hs3⟩, by omega⟩
  · rename_i hge
    have : i = xs.length := by omega
    subst this
    repeat' (first|refine X.O ?_|refine X.A ?_|refine X.B ?_|refine X.C ?_|refine X.D ?_|refine X.E ?_|refine X.F ?_|refine X.G ?_|refine X.H ?_|refine X.I ?_|fail)
    refine ⟨_, ret1 rfl (by rfl), ?_⟩
    exact ⟨by rw [hq, List.drop_length, allN_nil], hs⟩
end Go.Proofs
/- Sums and multiples of lists, and of maps. -/
namespace Go.Proofs
open Go Go.Fw Go.RowKit Go.Rk

theorem Ints_snoc {ys : List Int} {i : Nat} (h : i < ys.length) {y : Int} (hy : ys[i] = y) : Ints (ys.take i) ++ [Value.int .i64 y] = Ints (ys.take (i + 1)) := by
  rw [take_snoc h hy, Ints_append]; rfl

theorem plus_any {lo hi lo' hi' : Nat} {w : World} {v v' : Value} {xs ys : List Int} (k : Int) (h : IS lo hi w v xs) (h' : IS lo' hi' w v' ys) (hl : xs.length ≤ ys.length) (hn : xs.length ≤ 1000000) (hx : allN xs = true) (hy : allN ys = true) :
    Does Tryz.prog 99 [v, v', .int .i64 k] w fun r w' => NewI w r w' (plusL xs ys k) := by
  obtain ⟨a, c, hv⟩ := h.shape
  obtain ⟨a', c', hv'⟩ := h'.shape
  rw [hv] at h ⊢
  rw [hv'] at h' ⊢
  refine Does.enter Tryz.func99 Tryz.ntmps99 rfl (by rfl) ?_
  repeat' (first|refine X.O ?_|refine X.A ?_|refine X.B ?_|refine X.C ?_|refine X.D ?_|refine X.E ?_|refine X.F ?_|refine X.G ?_|refine X.H ?_|refine X.I ?_|fail)
  refine WL.step (o_lit (us := []) (by rfl) (by rfl) rfl (by decide) one0 ?_)
  intro v1 w1 hown hb1 hz1 _
  repeat' (first|refine X.O ?_|refine X.A ?_|refine X.B ?_|refine X.C ?_|refine X.D ?_|refine X.E ?_|refine X.F ?_|refine X.G ?_|refine X.H ?_|refine X.I ?_|fail)
  refine WP.loop (fun (s : Nat × Value) => [(0, .slice a xs.length c), (1, .slice a' ys.length c'), (2, .int .i64 k), (7, s.2), (11, .slice a xs.length c), (12, .int .i64 xs.length), (13, .int .i64 s.1)])
    (fun s w2 => s.1 ≤ xs.length ∧ Own w.heap.size 2 w2 s.2 (Ints ((plusL xs ys k).take s.1)) ∧ Below w.heap.size w w2)
    (fun s => xs.length - s.1) (0, v1) ⟨rfl, rfl, rfl, rfl, rfl, rfl, rfl, trivial⟩ ⟨by omega, by simpa [Ints] using hown, hb1⟩ ?_
  rintro ⟨i, vo⟩ w2 ⟨hi, hown2, hb2⟩
  dsimp only at hi hown2 ⊢
  have hs2 := hb2.size
  repeat' (first|refine X.O ?_|refine X.A ?_|refine X.B ?_|refine X.C ?_|refine X.D ?_|refine X.E ?_|refine X.F ?_|refine X.G ?_|refine X.H ?_|refine X.I ?_|fail)
  first|refine X.J (fun _ => ?_) (fun _ => ?_)|refine X.L (fun _ => ?_) (fun _ => ?_)|refine X.M (fun _ => ?_) (fun _ => ?_)|refine X.R (fun _ => ?_) (fun _ => ?_)|fail
  · rename_i hlt
    have hlt' : i < xs.length := by omega
    have h2 := h.below RI.stable hb2 h.hi_le
    repeat' (first|refine X.O ?_|refine X.A ?_|refine X.B ?_|refine X.C ?_|refine X.D ?_|refine X.E ?_|refine X.F ?_|refine X.G ?_|refine X.H ?_|refine X.I ?_|fail)
    refine WL.ixload h2 (List.getElem?_eq_getElem hlt') ?_
    rintro p _ rfl
    repeat' (first|refine X.O ?_|refine X.A ?_|refine X.B ?_|refine X.C ?_|refine X.D ?_|refine X.E ?_|refine X.F ?_|refine X.G ?_|refine X.H ?_|refine X.I ?_|fail)
    refine WP.drawn (fun w' => Below w.heap.size w w') [(0, true), (1, true), (2, true), (4, true), (5, true), (6, true), (7, true), (3, false), (8, true), (9, true), (10, false), (11, false), (12, false), (13, true)] (by kernel_rfl) mixed ?_
    intro w3 hs3
    have hb3 : Below w.heap.size w w3 := hb2.trans (hs3.below _)
    have h3' := h'.below RI.stable hb3 h'.hi_le
    have hown3 := hown2.still hs3
    have hxb := allN_get hx hlt'
    have hyb := allN_get hy (show i < ys.length by omega)
    have hkb := nm_bd k
    have hmb := mul_bd hkb.1 hkb.2 hyb.1 hyb.2
    repeat' (first|refine X.U rfl ?_|refine X.V rfl ?_|refine X.W rfl ?_|refine X.Y rfl ?_|refine X.Z rfl ?_|refine WS.nil ?_|fail)
    refine WS.ixload rfl rfl h3' (List.getElem?_eq_getElem (show i < ys.length by omega)) (fun w' hw' => same_below hb3 hw' h'.hi_le) hb3 ?_
    rintro p1 _ rfl
    refine WS.call rfl (num_any _ _) ?_
    rintro _ _ ⟨rfl, rfl⟩
    refine ⟨hb3, ?_⟩
    refine WS.q rfl (q_mul (by rfl) (by rfl) (by unfold InI; omega)) hb3 ?_
    repeat' (first|refine X.U rfl ?_|refine X.V rfl ?_|refine X.W rfl ?_|refine X.Y rfl ?_|refine X.Z rfl ?_|refine WS.nil ?_|fail)
    refine WS.call rfl (num_any _ _) ?_
    rintro _ _ ⟨rfl, rfl⟩
    refine ⟨hb3, ?_⟩
    refine WS.op rfl (o_lit (us := [.int .i64 _]) (by rfl) (by rfl) rfl (by decide) (one1 rfl) ?_)
    intro v4 w4 hown4 hb4 hz4 _
    have hb4' : Below w.heap.size w w4 := hb3.trans (Below.mono hb4 (by have := hb3.size; omega))
    refine ⟨hb4', ?_⟩
    have hown4' := hown3.below hb4 (Nat.le_refl _)
    refine WS.op rfl (o_append (by rfl) (by rfl) hown4' hown4.src (one1 rfl) (by simp [Ints, plusL_length, maxLen]; omega) (by simp [Ints, plusL_length]; omega) (by have := hb4'.size; omega) ?_)
    intro v5 w5 hown5 _ hb5 _
    have hb5' := hb4'.trans hb5
    refine ⟨hb5', ?_⟩
    repeat' (first|refine X.U rfl ?_|refine X.V rfl ?_|refine X.W rfl ?_|refine X.Y rfl ?_|refine X.Z rfl ?_|refine WS.nil ?_|fail)
    repeat' (first|refine X.O ?_|refine X.A ?_|refine X.B ?_|refine X.C ?_|refine X.D ?_|refine X.E ?_|refine X.F ?_|refine X.G ?_|refine X.H ?_|refine X.I ?_|fail)
    refine ⟨(i + 1, v5), ⟨rfl, rfl, rfl, rfl, rfl, rfl, (by first|rfl|exact X.T (by omega)), trivial⟩, ⟨by dsimp only; omega, ?_, hb5'⟩, by dsimp only; omega⟩
    have hlp : i < (plusL xs ys k).length := by rw [plusL_length]; omega
    dsimp only
    rw [← Ints_snoc hlp (y := nm (xs[i] + nm k * ys[i])) (by rw [plusL_get _ hlt' (by omega)])]
    exact hown5
  · rename_i hge
    have : i = xs.length := by omega
    subst this
    repeat' (first|refine X.O ?_|refine X.A ?_|refine X.B ?_|refine X.C ?_|refine X.D ?_|refine X.E ?_|refine X.F ?_|refine X.G ?_|refine X.H ?_|refine X.I ?_|fail)
    refine ⟨_, ret1 rfl (by rfl), ?_⟩
    rw [List.take_of_length_le (by rw [plusL_length]; omega)] at hown2
    exact ⟨hown2, hb2⟩

theorem scaled_any {lo hi : Nat} {w : World} {v : Value} {xs : List Int} (k : Int) (h : IS lo hi w v xs) (hn : xs.length ≤ 1000000) (hx : allN xs = true) :
    Does Tryz.prog 98 [v, .int .i64 k] w fun r w' => NewI w r w' (scaledL xs k) := by
  obtain ⟨a, c, hv⟩ := h.shape
  rw [hv] at h ⊢
  have hlen : (scaledL xs k).length = xs.length := by simp [scaledL]
  refine Does.enter Tryz.func98 Tryz.ntmps98 rfl (by rfl) ?_
  repeat' (first|refine X.O ?_|refine X.A ?_|refine X.B ?_|refine X.C ?_|refine X.D ?_|refine X.E ?_|refine X.F ?_|refine X.G ?_|refine X.H ?_|refine X.I ?_|fail)
  refine WL.step (o_lit (us := []) (by rfl) (by rfl) rfl (by decide) one0 ?_)
  intro v1 w1 hown hb1 hz1 _
  repeat' (first|refine X.O ?_|refine X.A ?_|refine X.B ?_|refine X.C ?_|refine X.D ?_|refine X.E ?_|refine X.F ?_|refine X.G ?_|refine X.H ?_|refine X.I ?_|fail)
  refine WP.loop (fun (s : Nat × Value) => [(0, .slice a xs.length c), (1, .int .i64 k), (5, s.2), (9, .slice a xs.length c), (10, .int .i64 xs.length), (11, .int .i64 s.1)])
    (fun s w2 => s.1 ≤ xs.length ∧ Own w.heap.size 2 w2 s.2 (Ints ((scaledL xs k).take s.1)) ∧ Below w.heap.size w w2)
    (fun s => xs.length - s.1) (0, v1) ⟨rfl, rfl, rfl, rfl, rfl, rfl, trivial⟩ ⟨by omega, by simpa [Ints] using hown, hb1⟩ ?_
  rintro ⟨i, vo⟩ w2 ⟨hi, hown2, hb2⟩
  dsimp only at hi hown2 ⊢
  have hs2 := hb2.size
  repeat' (first|refine X.O ?_|refine X.A ?_|refine X.B ?_|refine X.C ?_|refine X.D ?_|refine X.E ?_|refine X.F ?_|refine X.G ?_|refine X.H ?_|refine X.I ?_|fail)
  first|refine X.J (fun _ => ?_) (fun _ => ?_)|refine X.L (fun _ => ?_) (fun _ => ?_)|refine X.M (fun _ => ?_) (fun _ => ?_)|refine X.R (fun _ => ?_) (fun _ => ?_)|fail
  · rename_i hlt
    have hlt' : i < xs.length := by omega
    have h2 := h.below RI.stable hb2 h.hi_le
    have hxb := allN_get hx hlt'
    have hkb := nm_bd k
    have hmb := mul_bd hxb.1 hxb.2 hkb.1 hkb.2
    repeat' (first|refine X.O ?_|refine X.A ?_|refine X.B ?_|refine X.C ?_|refine X.D ?_|refine X.E ?_|refine X.F ?_|refine X.G ?_|refine X.H ?_|refine X.I ?_|fail)
    refine WL.ixload h2 (List.getElem?_eq_getElem hlt') ?_
    rintro p _ rfl
    repeat' (first|refine X.O ?_|refine X.A ?_|refine X.B ?_|refine X.C ?_|refine X.D ?_|refine X.E ?_|refine X.F ?_|refine X.G ?_|refine X.H ?_|refine X.I ?_|fail)
    refine WL.call (num_any _ _) ?_
    rintro _ _ ⟨rfl, rfl⟩
    refine WL.step (o_mul (by rfl) (by rfl) (by unfold InI; omega) ?_)
    refine WL.call (num_any _ _) ?_
    rintro _ _ ⟨rfl, rfl⟩
    refine o_append1 (u := .int .i64 _) (fun _ => by rfl) (by rfl) hown2 rfl (by simp [Ints, hlen, maxLen]; omega) (by simp [Ints, hlen]; omega) (by omega) ?_
    intro p5 v5 w5 hown5 hb5 _ _ _
    repeat' (first|refine X.O ?_|refine X.A ?_|refine X.B ?_|refine X.C ?_|refine X.D ?_|refine X.E ?_|refine X.F ?_|refine X.G ?_|refine X.H ?_|refine X.I ?_|fail)
    refine ⟨(i + 1, v5), ⟨rfl, rfl, rfl, rfl, rfl, (by first|rfl|exact X.T (by omega)), trivial⟩, ⟨by dsimp only; omega, ?_, hb2.trans hb5⟩, by dsimp only; omega⟩
    dsimp only
    rw [← Ints_snoc (show i < (scaledL xs k).length by omega) (y := nm (xs[i] * nm k)) (by rw [scaledL_get _ hlt'])]
    exact hown5
  · rename_i hge
    have : i = xs.length := by omega
    subst this
    repeat' (first|refine X.O ?_|refine X.A ?_|refine X.B ?_|refine X.C ?_|refine X.D ?_|refine X.E ?_|refine X.F ?_|refine X.G ?_|refine X.H ?_|refine X.I ?_|fail)
    refine ⟨_, ret1 rfl (by rfl), ?_⟩
    rw [List.take_of_length_le (by omega)] at hown2
    exact ⟨hown2, hb2⟩


/-- A result: a list of the call's own, and a code. -/
def ResI (w : World) (r : Value) (w' : World) (p : List Int × Int) : Prop := ∃ v, r = .tuple #[v, .int .i64 p.2] ∧ NewI w v w' p.1

theorem ResI.none (w : World) (w' : World) (hb : Below w.heap.size w w') (code : Int) : ResI w (.tuple #[.slice none 0 0, .int .i64 code]) w' ([], code) := ⟨_, rfl, Own.nil _ _ _, hb⟩

theorem NewI.trans {w w1 : World} {v : Value} {w' : World} {xs : List Int} (h : NewI w1 v w' xs) (hs : Below w.heap.size w w1) : NewI w v w' xs :=
  ⟨h.1.lower hs.size, hs.trans (Below.mono h.2 hs.size)⟩

end Go.Proofs
