/- Numbers of the field, lists of them, and maps: what the program's and the reference's functions compute. -/
import Derived.Test.YthepgmajeljdhaaGreatDoorHB
import Derived.Test.YthepgmajeljdhaaGreatDoorPlA
namespace Go.Proofs
open Go Go.Fw Go.RowKit Go.Rk

theorem inRange_any (n lo hi : Int) (w : World) : Does Tryz.prog 29 [.int .i64 n, .int .i64 lo, .int .i64 hi] w fun v w' => v = .bool (decide (lo ≤ n ∧ n ≤ hi)) ∧ Still w w' := by
  refine Does.enter Tryz.func29 Tryz.ntmps29 rfl (by rfl) ?_
  repeat' (first|refine X.O ?_|refine X.A ?_|refine X.B ?_|refine X.C ?_|refine X.D ?_|refine X.E ?_|refine X.F ?_|refine X.G ?_|refine X.H ?_|refine X.I ?_|fail | (first | refine WL.gsplitD (by rfl) (by rfl) (by rfl) (fun _ => ?_) (fun _ => ?_) | refine WL.gsplitND (by rfl) (by rfl) (by rfl) (fun _ => ?_) (fun _ => ?_) | refine WL.gsplitN (by rfl) (by rfl) (by rfl) (fun _ => ?_) (fun _ => ?_) | refine WL.gsplit (by rfl) (by rfl) (by rfl) (fun _ => ?_) (fun _ => ?_) | fail) | (first|refine X.J (fun _ => ?_) (fun _ => ?_)|refine X.L (fun _ => ?_) (fun _ => ?_)|refine X.M (fun _ => ?_) (fun _ => ?_)|refine X.R (fun _ => ?_) (fun _ => ?_)|fail))
  all_goals (refine ⟨_, ret1 rfl (by rfl), ?_⟩; refine ⟨?_, Still.refl _⟩; simp; try omega)
theorem l01In_any (n lo hi : Int) (w : World) : Does Tryz.prog 112 [.int .i64 n, .int .i64 lo, .int .i64 hi] w fun v w' => v = .bool (decide (lo ≤ n ∧ n ≤ hi)) ∧ Still w w' := by
  refine Does.enter Tryz.func112 Tryz.ntmps112 rfl (by rfl) ?_
  repeat' (first|refine X.O ?_|refine X.A ?_|refine X.B ?_|refine X.C ?_|refine X.D ?_|refine X.E ?_|refine X.F ?_|refine X.G ?_|refine X.H ?_|refine X.I ?_|fail | (first | refine WL.gsplitD (by rfl) (by rfl) (by rfl) (fun _ => ?_) (fun _ => ?_) | refine WL.gsplitND (by rfl) (by rfl) (by rfl) (fun _ => ?_) (fun _ => ?_) | refine WL.gsplitN (by rfl) (by rfl) (by rfl) (fun _ => ?_) (fun _ => ?_) | refine WL.gsplit (by rfl) (by rfl) (by rfl) (fun _ => ?_) (fun _ => ?_) | fail) | (first|refine X.J (fun _ => ?_) (fun _ => ?_)|refine X.L (fun _ => ?_) (fun _ => ?_)|refine X.M (fun _ => ?_) (fun _ => ?_)|refine X.R (fun _ => ?_) (fun _ => ?_)|fail))
  all_goals (refine ⟨_, ret1 rfl (by rfl), ?_⟩; refine ⟨?_, Still.refl _⟩; simp; try omega)
theorem IsNumber_any (n : Int) (w : World) : Does Tryz.prog 61 [.int .i64 n] w fun v w' => v = .bool (isN n) ∧ Still w w' := by
  refine Does.enter Tryz.func61 Tryz.ntmps61 rfl (by rfl) ?_
  repeat' (first|refine X.O ?_|refine X.A ?_|refine X.B ?_|refine X.C ?_|refine X.D ?_|refine X.E ?_|refine X.F ?_|refine X.G ?_|refine X.H ?_|refine X.I ?_|fail)
  refine WL.call (inRange_any _ _ _ _) ?_
  rintro _ w1 ⟨rfl, hs⟩
  repeat' (first|refine X.O ?_|refine X.A ?_|refine X.B ?_|refine X.C ?_|refine X.D ?_|refine X.E ?_|refine X.F ?_|refine X.G ?_|refine X.H ?_|refine X.I ?_|fail)
  refine ⟨_, ret1 rfl (by rfl), ?_⟩
  exact ⟨by rw [isN_def], hs⟩
theorem sIsNumber_any (n : Int) (w : World) : Does Tryz.prog 87 [.int .i64 n] w fun v w' => v = .bool (isN n) ∧ Still w w' := by
  refine Does.enter Tryz.func87 Tryz.ntmps87 rfl (by rfl) ?_
  repeat' (first|refine X.O ?_|refine X.A ?_|refine X.B ?_|refine X.C ?_|refine X.D ?_|refine X.E ?_|refine X.F ?_|refine X.G ?_|refine X.H ?_|refine X.I ?_|fail)
  refine WL.call (l01In_any _ _ _ _) ?_
  rintro _ w1 ⟨rfl, hs⟩
  repeat' (first|refine X.O ?_|refine X.A ?_|refine X.B ?_|refine X.C ?_|refine X.D ?_|refine X.E ?_|refine X.F ?_|refine X.G ?_|refine X.H ?_|refine X.I ?_|fail)
  refine ⟨_, ret1 rfl (by rfl), ?_⟩
  exact ⟨by rw [isN_def], hs⟩
theorem num_any (n : Int) (w : World) : Does Tryz.prog 47 [.int .i64 n] w fun v w' => v = .int .i64 (nm n) ∧ w = w' := by
  have hb := tmod_bd n
  refine Does.enter Tryz.func47 Tryz.ntmps47 rfl (by rfl) ?_
  repeat' (first|refine X.O ?_|refine X.A ?_|refine X.B ?_|refine X.C ?_|refine X.D ?_|refine X.E ?_|refine X.F ?_|refine X.G ?_|refine X.H ?_|refine X.I ?_|fail)
  refine WL.step (o_rem (by rfl) (by rfl) (by decide) ?_)
  repeat' (first|refine X.O ?_|refine X.A ?_|refine X.B ?_|refine X.C ?_|refine X.D ?_|refine X.E ?_|refine X.F ?_|refine X.G ?_|refine X.H ?_|refine X.I ?_|fail)
  refine WL.step (o_rem (by rfl) (by rfl) (by decide) ?_)
  repeat' (first|refine X.O ?_|refine X.A ?_|refine X.B ?_|refine X.C ?_|refine X.D ?_|refine X.E ?_|refine X.F ?_|refine X.G ?_|refine X.H ?_|refine X.I ?_|fail)
  refine ⟨_, ret1 rfl (by rfl), ?_⟩
  exact ⟨by rw [nm_tmod], rfl⟩
theorem l01Mod_any (n : Int) (w : World) : Does Tryz.prog 98 [.int .i64 n] w fun v w' => v = .int .i64 (nm n) ∧ w = w' := by
  have hb := tmod_bd n
  refine Does.enter Tryz.func98 Tryz.ntmps98 rfl (by rfl) ?_
  repeat' (first|refine X.O ?_|refine X.A ?_|refine X.B ?_|refine X.C ?_|refine X.D ?_|refine X.E ?_|refine X.F ?_|refine X.G ?_|refine X.H ?_|refine X.I ?_|fail)
  refine WL.step (o_rem (by rfl) (by rfl) (by decide) ?_)
  repeat' (first|refine X.O ?_|refine X.A ?_|refine X.B ?_|refine X.C ?_|refine X.D ?_|refine X.E ?_|refine X.F ?_|refine X.G ?_|refine X.H ?_|refine X.I ?_|fail)
  refine WL.step (o_rem (by rfl) (by rfl) (by decide) ?_)
  repeat' (first|refine X.O ?_|refine X.A ?_|refine X.B ?_|refine X.C ?_|refine X.D ?_|refine X.E ?_|refine X.F ?_|refine X.G ?_|refine X.H ?_|refine X.I ?_|fail)
  refine ⟨_, ret1 rfl (by rfl), ?_⟩
  exact ⟨by rw [nm_tmod], rfl⟩
theorem l01Add_any (a b : Int) (w : World) (h : InI (a + b)) : Does Tryz.prog 67 [.int .i64 a, .int .i64 b] w fun v w' => v = .int .i64 (nm (a + b)) ∧ w = w' := by
  unfold InI at h
  refine Does.enter Tryz.func67 Tryz.ntmps67 rfl (by rfl) ?_
  repeat' (first|refine X.O ?_|refine X.A ?_|refine X.B ?_|refine X.C ?_|refine X.D ?_|refine X.E ?_|refine X.F ?_|refine X.G ?_|refine X.H ?_|refine X.I ?_|fail)
  refine WL.call (l01Mod_any _ _) ?_
  rintro _ _ ⟨rfl, rfl⟩
  repeat' (first|refine X.O ?_|refine X.A ?_|refine X.B ?_|refine X.C ?_|refine X.D ?_|refine X.E ?_|refine X.F ?_|refine X.G ?_|refine X.H ?_|refine X.I ?_|fail)
  refine ⟨_, ret1 rfl (by rfl), ?_⟩
  exact ⟨rfl, rfl⟩
theorem l01Sub_any (a b : Int) (w : World) (h : InI (a - b)) : Does Tryz.prog 68 [.int .i64 a, .int .i64 b] w fun v w' => v = .int .i64 (nm (a - b)) ∧ w = w' := by
  unfold InI at h
  refine Does.enter Tryz.func68 Tryz.ntmps68 rfl (by rfl) ?_
  repeat' (first|refine X.O ?_|refine X.A ?_|refine X.B ?_|refine X.C ?_|refine X.D ?_|refine X.E ?_|refine X.F ?_|refine X.G ?_|refine X.H ?_|refine X.I ?_|fail)
  refine WL.call (l01Mod_any _ _) ?_
  rintro _ _ ⟨rfl, rfl⟩
  repeat' (first|refine X.O ?_|refine X.A ?_|refine X.B ?_|refine X.C ?_|refine X.D ?_|refine X.E ?_|refine X.F ?_|refine X.G ?_|refine X.H ?_|refine X.I ?_|fail)
  refine ⟨_, ret1 rfl (by rfl), ?_⟩
  exact ⟨rfl, rfl⟩
theorem l01Mul_any (a b : Int) (w : World) (h : InI (a * b)) : Does Tryz.prog 73 [.int .i64 a, .int .i64 b] w fun v w' => v = .int .i64 (nm (a * b)) ∧ w = w' := by
  refine Does.enter Tryz.func73 Tryz.ntmps73 rfl (by rfl) ?_
  repeat' (first|refine X.O ?_|refine X.A ?_|refine X.B ?_|refine X.C ?_|refine X.D ?_|refine X.E ?_|refine X.F ?_|refine X.G ?_|refine X.H ?_|refine X.I ?_|fail)
  refine WL.step (o_mul (by rfl) (by rfl) h ?_)
  refine WL.call (l01Mod_any _ _) ?_
  rintro _ _ ⟨rfl, rfl⟩
  repeat' (first|refine X.O ?_|refine X.A ?_|refine X.B ?_|refine X.C ?_|refine X.D ?_|refine X.E ?_|refine X.F ?_|refine X.G ?_|refine X.H ?_|refine X.I ?_|fail)
  refine ⟨_, ret1 rfl (by rfl), ?_⟩
  exact ⟨rfl, rfl⟩

theorem areNumbers1_any (n : Int) (w : World) : Does Tryz.prog 60 [.int .i64 n] w fun v w' => v = .bool (!isN n) ∧ Still w w' := by
  refine Does.enter Tryz.func60 Tryz.ntmps60 rfl (by rfl) ?_
  repeat' (first|refine X.O ?_|refine X.A ?_|refine X.B ?_|refine X.C ?_|refine X.D ?_|refine X.E ?_|refine X.F ?_|refine X.G ?_|refine X.H ?_|refine X.I ?_|fail)
  refine WL.call (IsNumber_any _ _) ?_
  rintro _ w1 ⟨rfl, hs⟩
  repeat' (first|refine X.O ?_|refine X.A ?_|refine X.B ?_|refine X.C ?_|refine X.D ?_|refine X.E ?_|refine X.F ?_|refine X.G ?_|refine X.H ?_|refine X.I ?_|fail)
  refine ⟨_, ret1 rfl (by rfl), ?_⟩
  exact ⟨rfl, hs⟩
theorem idxFrom_drop {α : Type} (p : α → Bool) {xs : List α} {i : Nat} (h : i < xs.length) : idxFrom p i (xs.drop i) = if p xs[i] then (i : Int) else idxFrom p ((i + 1 : Nat) : Int) (xs.drop (i + 1)) := by
  rw [List.drop_eq_getElem_cons h, idxFrom]; rfl

theorem IndexFunc_int {lo hi : Nat} {w : World} {v : Value} {xs : List Int} {f : FuncId} [FuncTy Tryz.prog f] {cap : List Value} (p : Int → Bool) (h : IS lo hi w v xs)
    (hp : ∀ x ∈ xs, ∀ w', Still w w' → Does Tryz.prog f ([.int .i64 x] ++ cap) w' fun r w'' => r = .bool (p x) ∧ Still w' w'') :
    Does Tryz.prog 89 [v, .func (.func f) #[] cap.toArray] w fun r w' => r = .int .i64 (idxFrom p 0 xs) ∧ Still w w' := by
  obtain ⟨a, c, hv⟩ := h.shape
  rw [hv] at h ⊢
  have hm := h.len
  unfold maxLen at hm
  refine Does.enter Tryz.func89 Tryz.ntmps89 rfl (by rfl) ?_
  repeat' (first|refine X.O ?_|refine X.A ?_|refine X.B ?_|refine X.C ?_|refine X.D ?_|refine X.E ?_|refine X.F ?_|refine X.G ?_|refine X.H ?_|refine X.I ?_|fail)
  refine WP.loop (fun i => [(0, .slice a xs.length c), (1, .func (.func f) #[] cap.toArray), (7, .int .i64 xs.length), (8, .int .i64 (i : Nat))]) (fun i w2 => i ≤ xs.length ∧ idxFrom p 0 xs = idxFrom p (i : Nat) (xs.drop i) ∧ Still w w2)
    (fun i => xs.length - i) 0 ⟨rfl, rfl, rfl, rfl, trivial⟩ ⟨by omega, by simp, Still.refl _⟩ ?_
  rintro i w2 ⟨hi, hq, hs⟩
  repeat' (first|refine X.O ?_|refine X.A ?_|refine X.B ?_|refine X.C ?_|refine X.D ?_|refine X.E ?_|refine X.F ?_|refine X.G ?_|refine X.H ?_|refine X.I ?_|fail)
  first|refine X.J (fun _ => ?_) (fun _ => ?_)|refine X.L (fun _ => ?_) (fun _ => ?_)|refine X.M (fun _ => ?_) (fun _ => ?_)|refine X.R (fun _ => ?_) (fun _ => ?_)|fail
  · rename_i hlt
    have hlt' : i < xs.length := by omega
    repeat' (first|refine X.O ?_|refine X.A ?_|refine X.B ?_|refine X.C ?_|refine X.D ?_|refine X.E ?_|refine X.F ?_|refine X.G ?_|refine X.H ?_|refine X.I ?_|fail)
    refine WL.ixload (h.still RI.stable hs) (List.getElem?_eq_getElem hlt') ?_
    rintro p1 _ rfl
    refine WL.step (o_callV (f := f) (fst := []) (cap := cap) (by rfl) (hp _ (List.getElem_mem hlt') w2 hs) ?_)
    rintro _ w3 ⟨rfl, hs3⟩
    repeat' (first|refine X.O ?_|refine X.A ?_|refine X.B ?_|refine X.C ?_|refine X.D ?_|refine X.E ?_|refine X.F ?_|refine X.G ?_|refine X.H ?_|refine X.I ?_|fail)
    rw [idxFrom_drop p hlt'] at hq
    first|refine X.J (fun _ => ?_) (fun _ => ?_)|refine X.L (fun _ => ?_) (fun _ => ?_)|refine X.M (fun _ => ?_) (fun _ => ?_)|refine X.R (fun _ => ?_) (fun _ => ?_)|fail
    · rename_i hpx
      repeat' (first|refine X.O ?_|refine X.A ?_|refine X.B ?_|refine X.C ?_|refine X.D ?_|refine X.E ?_|refine X.F ?_|refine X.G ?_|refine X.H ?_|refine X.I ?_|fail)
      refine ⟨_, ret1 rfl (by rfl), ?_⟩
      rw [hpx] at hq
      exact ⟨by rw [hq]; rfl, hs.trans hs3⟩
    · rename_i hpx
      rw [hpx] at hq
      repeat' (first|refine X.O ?_|refine X.A ?_|refine X.B ?_|refine X.C ?_|refine X.D ?_|refine X.E ?_|refine X.F ?_|refine X.G ?_|refine X.H ?_|refine X.I ?_|fail)
      exact ⟨i + 1, ⟨rfl, rfl, rfl, rfl, trivial⟩, ⟨by omega, hq, hs.trans hs3⟩, by omega⟩
  · rename_i hge
    have : i = xs.length := by omega
    subst this
    repeat' (first|refine X.O ?_|refine X.A ?_|refine X.B ?_|refine X.C ?_|refine X.D ?_|refine X.E ?_|refine X.F ?_|refine X.G ?_|refine X.H ?_|refine X.I ?_|fail)
    refine ⟨_, ret1 rfl (by rfl), ?_⟩
    simp [idxFrom] at hq
    exact ⟨by rw [hq], hs⟩
theorem ContainsFunc_int {lo hi : Nat} {w : World} {v : Value} {xs : List Int} {f : FuncId} [FuncTy Tryz.prog f] {cap : List Value} (p : Int → Bool) (h : IS lo hi w v xs)
    (hp : ∀ x ∈ xs, ∀ w', Still w w' → Does Tryz.prog f ([.int .i64 x] ++ cap) w' fun r w'' => r = .bool (p x) ∧ Still w' w'') :
    Does Tryz.prog 59 [v, .func (.func f) #[] cap.toArray] w fun r w' => r = .bool (xs.any p) ∧ Still w w' := by
  refine Does.enter Tryz.func59 Tryz.ntmps59 rfl (by rfl) ?_
  repeat' (first|refine X.O ?_|refine X.A ?_|refine X.B ?_|refine X.C ?_|refine X.D ?_|refine X.E ?_|refine X.F ?_|refine X.G ?_|refine X.H ?_|refine X.I ?_|fail)
  refine WL.call (IndexFunc_int p h hp) ?_
  rintro _ w1 ⟨rfl, hs⟩
  repeat' (first|refine X.O ?_|refine X.A ?_|refine X.B ?_|refine X.C ?_|refine X.D ?_|refine X.E ?_|refine X.F ?_|refine X.G ?_|refine X.H ?_|refine X.I ?_|fail)
  refine ⟨_, ret1 rfl (by rfl), ?_⟩
  refine ⟨?_, hs⟩
  refine congrArg Value.bool ?_
  rw [Bool.eq_iff_iff, decide_eq_true_iff]
  exact idxFrom_lt p xs 0 (by omega)
theorem areNumbers_any {lo hi : Nat} {w : World} {v : Value} {xs : List Int} (h : IS lo hi w v xs) : Does Tryz.prog 31 [v] w fun r w' => r = .bool (allN xs) ∧ Still w w' := by
  refine Does.enter Tryz.func31 Tryz.ntmps31 rfl (by rfl) ?_
  repeat' (first|refine X.O ?_|refine X.A ?_|refine X.B ?_|refine X.C ?_|refine X.D ?_|refine X.E ?_|refine X.F ?_|refine X.G ?_|refine X.H ?_|refine X.I ?_|fail)
  refine WL.call (ContainsFunc_int (f := 60) (cap := []) (fun x => !isN x) h (fun x _ w' _ => areNumbers1_any x w')) ?_
  rintro _ w1 ⟨rfl, hs⟩
  repeat' (first|refine X.O ?_|refine X.A ?_|refine X.B ?_|refine X.C ?_|refine X.D ?_|refine X.E ?_|refine X.F ?_|refine X.G ?_|refine X.H ?_|refine X.I ?_|fail)
  refine ⟨_, ret1 rfl (by rfl), ?_⟩
  exact ⟨by rw [isN_not_any], hs⟩
theorem l01Numbers_any {lo hi : Nat} {w : World} {v : Value} {xs : List Int} (h : IS lo hi w v xs) : Does Tryz.prog 57 [v] w fun r w' => r = .bool (allN xs) ∧ Still w w' := by
  obtain ⟨a, c, hv⟩ := h.shape
  rw [hv] at h ⊢
  have hm := h.len
  unfold maxLen at hm
  refine Does.enter Tryz.func57 Tryz.ntmps57 rfl (by rfl) ?_
  repeat' (first|refine X.O ?_|refine X.A ?_|refine X.B ?_|refine X.C ?_|refine X.D ?_|refine X.E ?_|refine X.F ?_|refine X.G ?_|refine X.H ?_|refine X.I ?_|fail)
  refine WP.loop (fun i => [(0, .slice a xs.length c), (3, .int .i64 (i : Nat))]) (fun i w2 => i ≤ xs.length ∧ allN xs = allN (xs.drop i) ∧ Still w w2)
    (fun i => xs.length - i) 0 ⟨rfl, rfl, trivial⟩ ⟨by omega, by simp, Still.refl _⟩ ?_
  rintro i w2 ⟨hi, hq, hs⟩
  repeat' (first|refine X.O ?_|refine X.A ?_|refine X.B ?_|refine X.C ?_|refine X.D ?_|refine X.E ?_|refine X.F ?_|refine X.G ?_|refine X.H ?_|refine X.I ?_|fail)
  first|refine X.J (fun _ => ?_) (fun _ => ?_)|refine X.L (fun _ => ?_) (fun _ => ?_)|refine X.M (fun _ => ?_) (fun _ => ?_)|refine X.R (fun _ => ?_) (fun _ => ?_)|fail
  · rename_i hlt
    have hlt' : i < xs.length := by omega
    rw [List.drop_eq_getElem_cons hlt'] at hq
    repeat' (first|refine X.O ?_|refine X.A ?_|refine X.B ?_|refine X.C ?_|refine X.D ?_|refine X.E ?_|refine X.F ?_|refine X.G ?_|refine X.H ?_|refine X.I ?_|fail)
    refine WL.ixload (h.still RI.stable hs) (List.getElem?_eq_getElem hlt') ?_
    rintro p1 _ rfl
    refine WL.call (sIsNumber_any _ _) ?_
    rintro _ w3 ⟨rfl, hs3⟩
    repeat' (first|refine X.O ?_|refine X.A ?_|refine X.B ?_|refine X.C ?_|refine X.D ?_|refine X.E ?_|refine X.F ?_|refine X.G ?_|refine X.H ?_|refine X.I ?_|fail)
    first|refine X.J (fun _ => ?_) (fun _ => ?_)|refine X.L (fun _ => ?_) (fun _ => ?_)|refine X.M (fun _ => ?_) (fun _ => ?_)|refine X.R (fun _ => ?_) (fun _ => ?_)|fail
    · rename_i hpx
      repeat' (first|refine X.O ?_|refine X.A ?_|refine X.B ?_|refine X.C ?_|refine X.D ?_|refine X.E ?_|refine X.F ?_|refine X.G ?_|refine X.H ?_|refine X.I ?_|fail)
      refine ⟨_, ret1 rfl (by rfl), ?_⟩
      exact ⟨by rw [hq, allN_cons, hpx]; rfl, hs.trans hs3⟩
    · rename_i hpx
      repeat' (first|refine X.O ?_|refine X.A ?_|refine X.B ?_|refine X.C ?_|refine X.D ?_|refine X.E ?_|refine X.F ?_|refine X.G ?_|refine X.H ?_|refine X.I ?_|fail)
      exact ⟨i + 1, ⟨rfl, rfl, trivial⟩, ⟨by omega, by rw [hq, allN_cons, hpx]; rfl, hs.trans hs3⟩, by omega⟩
  · rename_i hge
    have : i = xs.length := by omega
    subst this
    repeat' (first|refine X.O ?_|refine X.A ?_|refine X.B ?_|refine X.C ?_|refine X.D ?_|refine X.E ?_|refine X.F ?_|refine X.G ?_|refine X.H ?_|refine X.I ?_|fail)
    refine ⟨_, ret1 rfl (by rfl), ?_⟩
    exact ⟨by rw [hq, List.drop_length, allN_nil], hs⟩
end Go.Proofs
/- Sums and multiples of lists, and of maps. -/
namespace Go.Proofs
open Go Go.Fw Go.RowKit Go.Rk

theorem Ints_snoc {ys : List Int} {i : Nat} (h : i < ys.length) {y : Int} (hy : ys[i] = y) : Ints (ys.take i) ++ [Value.int .i64 y] = Ints (ys.take (i + 1)) := by
  rw [take_snoc h hy, Ints_append]; rfl




/-- A result: a list of the call's own, and a code. -/
def ResI (w : World) (r : Value) (w' : World) (p : List Int × Int) : Prop := ∃ v, r = .tuple #[v, .int .i64 p.2] ∧ NewI w v w' p.1

theorem ResI.none (w : World) (w' : World) (hb : Below w.heap.size w w') (code : Int) : ResI w (.tuple #[.slice none 0 0, .int .i64 code]) w' ([], code) := ⟨_, rfl, Own.nil _ _ _, hb⟩

theorem NewI.trans {w w1 : World} {v : Value} {w' : World} {xs : List Int} (h : NewI w1 v w' xs) (hs : Below w.heap.size w w1) : NewI w v w' xs :=
  ⟨h.1.lower hs.size, hs.trans (Below.mono h.2 hs.size)⟩

end Go.Proofs
