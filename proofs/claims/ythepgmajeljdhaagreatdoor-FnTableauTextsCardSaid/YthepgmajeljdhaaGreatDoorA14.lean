/- The program's conditions on the quadrature, the stages and the columns. -/
import Derived.Test.YthepgmajeljdhaaGreatDoorA3
import Derived.Test.YthepgmajeljdhaaGreatDoorA5
import Derived.Test.YthepgmajeljdhaaGreatDoorPlA
import Derived.Test.YthepgmajeljdhaaGreatDoorHB
namespace Go.Proofs
open Go Go.Fw Go.RowKit Go.Rk

theorem zip_bd {xs ys : List Int} (hx : allN xs = true) (hy : allN ys = true) : 0 ≤ (List.zipWith (· * ·) xs ys).sum ∧ (List.zipWith (· * ·) xs ys).sum ≤ 100120036 * xs.length := by
  induction xs generalizing ys with
  | nil => simp
  | cons x xs ih =>
    cases ys with
    | nil => simp; omega
    | cons y ys =>
      rw [allN_cons, Bool.and_eq_true] at hx hy
      have h1 := isN_bd hx.1
      have h2 := isN_bd hy.1
      have h3 := mul_bd h1.1 h1.2 h2.1 h2.2
      have h4 := ih hx.2 hy.2
      simp only [List.zipWith_cons_cons, List.sum_cons, List.length_cons]
      omega
theorem zip_take_bd {xs ys : List Int} (hx : allN xs = true) (hy : allN ys = true) (i : Nat) : 0 ≤ ((List.zipWith (· * ·) xs ys).take i).sum ∧ ((List.zipWith (· * ·) xs ys).take i).sum ≤ 100120036 * xs.length := by
  rw [List.take_zipWith]
  have h := zip_bd (allN_take hx i) (allN_take hy i)
  have h2 : (xs.take i).length ≤ xs.length := by rw [List.length_take]; omega
  omega
theorem pow_at (a e : Int) (n : Nat) (hn : e = n) (h0 : 0 ≤ a) (h1 : a ≤ 10006) (he : n ≤ 1000000) (w : World) : Does Tryz.prog 70 [.int .i64 a, .int .i64 e] w fun r w' => r = .int .i64 (powN a n) ∧ Still w w' := by
  subst hn; exact pow_any a n h0 h1 he w
theorem l01Pow_at (a e : Int) (n : Nat) (hn : e = n) (h0 : 0 ≤ a) (h1 : a ≤ 10006) (he : n ≤ 1000000) (w : World) : Does Tryz.prog 100 [.int .i64 a, .int .i64 e] w fun r w' => r = .int .i64 (powN a n) ∧ w = w' := by
  subst hn; exact l01Pow_any a n h0 h1 he w

theorem dot_any {lo hi lo' hi' : Nat} {w : World} {v v' : Value} {xs ys : List Int} (h : IS lo hi w v xs) (h' : IS lo' hi' w v' ys) (hl : xs.length ≤ ys.length) (hn : xs.length ≤ 1000000) (hx : allN xs = true) (hy : allN ys = true) :
    Does Tryz.prog 107 [v, v'] w fun r w' => r = .int .i64 (dotL xs ys) ∧ Still w w' := by
  obtain ⟨a, c, hv⟩ := h.shape
  obtain ⟨a', c', hv'⟩ := h'.shape
  rw [hv] at h ⊢
  rw [hv'] at h' ⊢
  have hpl : (List.zipWith (· * ·) xs ys).length = xs.length := by simp; omega
  refine Does.enter Tryz.func107 Tryz.ntmps107 rfl (by rfl) ?_
  repeat' (first|refine X.O ?_|refine X.A ?_|refine X.B ?_|refine X.C ?_|refine X.D ?_|refine X.E ?_|refine X.F ?_|refine X.G ?_|refine X.H ?_|refine X.I ?_|fail)
  refine WP.loop (fun (i : Nat) => [(1, .slice a' ys.length c'), (5, .int .i64 ((List.zipWith (· * ·) xs ys).take i).sum), (8, .slice a xs.length c), (9, .int .i64 (xs.length : Nat)), (10, .int .i64 (i : Nat))]) (fun i w2 => i ≤ xs.length ∧ Still w w2)
    (fun i => xs.length - i) 0 ⟨rfl, rfl, rfl, rfl, rfl, trivial⟩ ⟨by omega, Still.refl _⟩ ?_
  rintro i w2 ⟨hi1, hs⟩
  have hb := zip_take_bd hx hy i
  repeat' (first|refine X.O ?_|refine X.A ?_|refine X.B ?_|refine X.C ?_|refine X.D ?_|refine X.E ?_|refine X.F ?_|refine X.G ?_|refine X.H ?_|refine X.I ?_|fail)
  first|refine X.J (fun _ => ?_) (fun _ => ?_)|refine X.L (fun _ => ?_) (fun _ => ?_)|refine X.M (fun _ => ?_) (fun _ => ?_)|refine X.R (fun _ => ?_) (fun _ => ?_)|fail
  · rename_i hlt
    have hlt' : i < xs.length := by omega
    have hxb := allN_get hx hlt'
    have hyb := allN_get hy (show i < ys.length by omega)
    have hmb := mul_bd hxb.1 hxb.2 hyb.1 hyb.2
    have hstep := sum_take_succ (xs := List.zipWith (· * ·) xs ys) (i := i) (by omega)
    rw [List.getElem_zipWith] at hstep
    repeat' (first|refine X.O ?_|refine X.A ?_|refine X.B ?_|refine X.C ?_|refine X.D ?_|refine X.E ?_|refine X.F ?_|refine X.G ?_|refine X.H ?_|refine X.I ?_|fail)
    refine WL.ixload (h.still RI.stable hs) (List.getElem?_eq_getElem hlt') ?_
    rintro p1 _ rfl
    repeat' (first|refine X.O ?_|refine X.A ?_|refine X.B ?_|refine X.C ?_|refine X.D ?_|refine X.E ?_|refine X.F ?_|refine X.G ?_|refine X.H ?_|refine X.I ?_|fail)
    refine WL.ixload (h'.still RI.stable hs) (List.getElem?_eq_getElem (show i < ys.length by omega)) ?_
    rintro p2 _ rfl
    refine WL.step (o_mul (by rfl) (by rfl) (by unfold InI; omega) ?_)
    repeat' (first|refine X.O ?_|refine X.A ?_|refine X.B ?_|refine X.C ?_|refine X.D ?_|refine X.E ?_|refine X.F ?_|refine X.G ?_|refine X.H ?_|refine X.I ?_|fail)
    exact ⟨i + 1, ⟨rfl, (by first|rfl|exact X.T (by omega)), rfl, rfl, (by first|rfl|exact X.T (by omega)), trivial⟩, ⟨by omega, hs⟩, by omega⟩
  · rename_i hge
    have : i = xs.length := by omega
    subst this
    repeat' (first|refine X.O ?_|refine X.A ?_|refine X.B ?_|refine X.C ?_|refine X.D ?_|refine X.E ?_|refine X.F ?_|refine X.G ?_|refine X.H ?_|refine X.I ?_|fail)
    refine WL.call (num_any _ _) ?_
    rintro _ _ ⟨rfl, rfl⟩
    repeat' (first|refine X.O ?_|refine X.A ?_|refine X.B ?_|refine X.C ?_|refine X.D ?_|refine X.E ?_|refine X.F ?_|refine X.G ?_|refine X.H ?_|refine X.I ?_|fail)
    refine ⟨_, ret1 rfl (by rfl), ?_⟩
    refine ⟨?_, hs⟩
    rw [List.take_of_length_le (by omega)]
    rfl
end Go.Proofs
/- The product of two small words, and a slice of ones by repetition: Go's library. -/
namespace Go.Fw
open Go Go.RowKit
theorem small_cases {n : Nat} (h : n ≤ 8) : n = 0 ∨ n = 1 ∨ n = 2 ∨ n = 3 ∨ n = 4 ∨ n = 5 ∨ n = 6 ∨ n = 7 ∨ n = 8 := by omega
section
variable {P : Program} {N : Nat} {Q : Exit → Fr → World → Prop} {l : Fr} {w : World} {ops : Array Oper} {K : Fr → World → Prop}
variable {d : Nat} {ty : TypeId} {pos : String} {af : Array Edge} {g : Option (Nat × Bool)}
theorem o_andU {x y : Operand} {t t' : TypeId} {n : Nat} (hn : n ≤ 8) (hx : ev l x = some (.int .u64 (n : Nat))) (hy : ev l y = some (.int .u64 4294967295)) (k : K ((d, .int .u64 (n : Nat)) :: l) w)
    (hg : wantedL ops l g = some true := by rfl) (hd : Nat.blt d N = true := by rfl) : OpW P N ops Q ⟨some d, .binOp .and t x y t', ty, pos, af, g⟩ l w K :=
  o_bin hx hy (fun w => by rcases small_cases hn with rfl | rfl | rfl | rfl | rfl | rfl | rfl | rfl | rfl <;> rfl) (fun w => run_eqGuardInt .u64 _ _ _) k hg hd
theorem o_shrU {x y : Operand} {t t' : TypeId} {n : Nat} (hn : n ≤ 8) (hx : ev l x = some (.int .u64 (n : Nat))) (hy : ev l y = some (.int .u64 32)) (k : K ((d, .int .u64 0) :: l) w)
    (hg : wantedL ops l g = some true := by rfl) (hd : Nat.blt d N = true := by rfl) : OpW P N ops Q ⟨some d, .binOp .shr t x y t', ty, pos, af, g⟩ l w K :=
  o_bin hx hy (fun w => by rcases small_cases hn with rfl | rfl | rfl | rfl | rfl | rfl | rfl | rfl | rfl <;> rfl) (fun w => run_eqGuardInt .u64 _ _ _) k hg hd
theorem o_mulU {x y : Operand} {t t' : TypeId} {a b c : Int} (hx : ev l x = some (.int .u64 a)) (hy : ev l y = some (.int .u64 b)) (hc : a * b = c) (h0 : 0 ≤ c) (h1 : c ≤ 1000) (k : K ((d, .int .u64 c) :: l) w)
    (hg : wantedL ops l g = some true := by rfl) (hd : Nat.blt d N = true := by rfl) : OpW P N ops Q ⟨some d, .binOp .mul t x y t', ty, pos, af, g⟩ l w K :=
  o_bin hx hy (fun w => by simp [binOp, Op.intArith, hc, wrap_u64 h0 (show c ≤ 18446744073709551615 by omega)]) (fun w => run_eqGuardInt .u64 _ _ _) k hg hd
theorem o_addU {x y : Operand} {t t' : TypeId} {a b c : Int} (hx : ev l x = some (.int .u64 a)) (hy : ev l y = some (.int .u64 b)) (hc : a + b = c) (h0 : 0 ≤ c) (h1 : c ≤ 1000) (k : K ((d, .int .u64 c) :: l) w)
    (hg : wantedL ops l g = some true := by rfl) (hd : Nat.blt d N = true := by rfl) : OpW P N ops Q ⟨some d, .binOp .add t x y t', ty, pos, af, g⟩ l w K :=
  o_bin hx hy (fun w => by simp [binOp, Op.intArith, hc, wrap_u64 h0 (show c ≤ 18446744073709551615 by omega)]) (fun w => run_eqGuardInt .u64 _ _ _) k hg hd
theorem o_cmpU {op : BinOp} {x y : Operand} {t t' : TypeId} {a b : Int} {r : Bool} (h : cmpInt op a b = some r) (hx : ev l x = some (.int .u64 a)) (hy : ev l y = some (.int .u64 b)) (k : K ((d, .bool r) :: l) w)
    (hg : wantedL ops l g = some true := by rfl) (hd : Nat.blt d N = true := by rfl) : OpW P N ops Q ⟨some d, .binOp op t x y t', ty, pos, af, g⟩ l w K :=
  o_bin hx hy (fun w => run_cmpInt .u64 t h) (fun w => run_eqGuardInt .u64 _ _ _) k hg hd
end
end Go.Fw
namespace Go.Proofs
open Go Go.Fw Go.RowKit Go.Rk
theorem Mul64_small (n : Nat) (hn : n ≤ 8) (w : World) : Does Tryz.prog 125 [.int .u64 ((1 : Nat) : Int), .int .u64 (n : Nat)] w fun r w' => r = .tuple #[.int .u64 0, .int .u64 (n : Nat)] ∧ w = w' := by
  refine Does.enter Tryz.func125 Tryz.ntmps125 rfl (by rfl) ?_
  repeat' (first|refine X.O ?_|refine X.A ?_|refine X.B ?_|refine X.C ?_|refine X.D ?_|refine X.E ?_|refine X.F ?_|refine X.G ?_|refine X.H ?_|refine X.I ?_|fail)
  refine WL.step (o_andU (n := 1) (by omega) (by rfl) (by rfl) ?_)
  repeat' (first|refine X.O ?_|refine X.A ?_|refine X.B ?_|refine X.C ?_|refine X.D ?_|refine X.E ?_|refine X.F ?_|refine X.G ?_|refine X.H ?_|refine X.I ?_|fail)
  refine WL.step (o_shrU (n := 1) (by omega) (by rfl) (by rfl) ?_)
  repeat' (first|refine X.O ?_|refine X.A ?_|refine X.B ?_|refine X.C ?_|refine X.D ?_|refine X.E ?_|refine X.F ?_|refine X.G ?_|refine X.H ?_|refine X.I ?_|fail)
  refine WL.step (o_andU hn (by rfl) (by rfl) ?_)
  repeat' (first|refine X.O ?_|refine X.A ?_|refine X.B ?_|refine X.C ?_|refine X.D ?_|refine X.E ?_|refine X.F ?_|refine X.G ?_|refine X.H ?_|refine X.I ?_|fail)
  refine WL.step (o_shrU hn (by rfl) (by rfl) ?_)
  repeat' (first|refine X.O ?_|refine X.A ?_|refine X.B ?_|refine X.C ?_|refine X.D ?_|refine X.E ?_|refine X.F ?_|refine X.G ?_|refine X.H ?_|refine X.I ?_|fail)
  refine WL.step (o_mulU (c := (n : Nat)) (by rfl) (by rfl) (by omega) (by omega) (by omega) ?_)
  repeat' (first|refine X.O ?_|refine X.A ?_|refine X.B ?_|refine X.C ?_|refine X.D ?_|refine X.E ?_|refine X.F ?_|refine X.G ?_|refine X.H ?_|refine X.I ?_|fail)
  refine WL.step (o_mulU (c := ((0 : Nat) : Int)) (by rfl) (by rfl) (by omega) (by omega) (by omega) ?_)
  repeat' (first|refine X.O ?_|refine X.A ?_|refine X.B ?_|refine X.C ?_|refine X.D ?_|refine X.E ?_|refine X.F ?_|refine X.G ?_|refine X.H ?_|refine X.I ?_|fail)
  refine WL.step (o_shrU hn (by rfl) (by rfl) ?_)
  refine WL.step (o_addU (c := ((0 : Nat) : Int)) (by rfl) (by rfl) (by omega) (by omega) (by omega) ?_)
  repeat' (first|refine X.O ?_|refine X.A ?_|refine X.B ?_|refine X.C ?_|refine X.D ?_|refine X.E ?_|refine X.F ?_|refine X.G ?_|refine X.H ?_|refine X.I ?_|fail)
  refine WL.step (o_andU (n := 0) (by omega) (by rfl) (by rfl) ?_)
  repeat' (first|refine X.O ?_|refine X.A ?_|refine X.B ?_|refine X.C ?_|refine X.D ?_|refine X.E ?_|refine X.F ?_|refine X.G ?_|refine X.H ?_|refine X.I ?_|fail)
  refine WL.step (o_shrU (n := 0) (by omega) (by rfl) (by rfl) ?_)
  repeat' (first|refine X.O ?_|refine X.A ?_|refine X.B ?_|refine X.C ?_|refine X.D ?_|refine X.E ?_|refine X.F ?_|refine X.G ?_|refine X.H ?_|refine X.I ?_|fail)
  refine WL.step (o_mulU (c := ((0 : Nat) : Int)) (by rfl) (by rfl) (by omega) (by omega) (by omega) ?_)
  refine WL.step (o_addU (c := ((0 : Nat) : Int)) (by rfl) (by rfl) (by omega) (by omega) (by omega) ?_)
  repeat' (first|refine X.O ?_|refine X.A ?_|refine X.B ?_|refine X.C ?_|refine X.D ?_|refine X.E ?_|refine X.F ?_|refine X.G ?_|refine X.H ?_|refine X.I ?_|fail)
  refine WL.step (o_mulU (c := ((0 : Nat) : Int)) (by rfl) (by rfl) (by omega) (by omega) (by omega) ?_)
  repeat' (first|refine X.O ?_|refine X.A ?_|refine X.B ?_|refine X.C ?_|refine X.D ?_|refine X.E ?_|refine X.F ?_|refine X.G ?_|refine X.H ?_|refine X.I ?_|fail)
  refine WL.step (o_addU (c := ((0 : Nat) : Int)) (by rfl) (by rfl) (by omega) (by omega) (by omega) ?_)
  repeat' (first|refine X.O ?_|refine X.A ?_|refine X.B ?_|refine X.C ?_|refine X.D ?_|refine X.E ?_|refine X.F ?_|refine X.G ?_|refine X.H ?_|refine X.I ?_|fail)
  refine WL.step (o_shrU (n := 0) (by omega) (by rfl) (by rfl) ?_)
  refine WL.step (o_addU (c := 0) (by rfl) (by rfl) (by omega) (by omega) (by omega) ?_)
  repeat' (first|refine X.O ?_|refine X.A ?_|refine X.B ?_|refine X.C ?_|refine X.D ?_|refine X.E ?_|refine X.F ?_|refine X.G ?_|refine X.H ?_|refine X.I ?_|fail)
  refine WL.step (o_mulU (c := (n : Nat)) (by rfl) (by rfl) (by omega) (by omega) (by omega) ?_)
  repeat' (first|refine X.O ?_|refine X.A ?_|refine X.B ?_|refine X.C ?_|refine X.D ?_|refine X.E ?_|refine X.F ?_|refine X.G ?_|refine X.H ?_|refine X.I ?_|fail)
  refine ⟨_, ret2 rfl (by rfl) (by rfl), ?_⟩
  exact ⟨rfl, rfl⟩
theorem Mul_small (n : Nat) (hn : n ≤ 8) (w : World) : Does Tryz.prog 106 [.int .u64 ((1 : Nat) : Int), .int .u64 (n : Nat)] w fun r w' => r = .tuple #[.int .u64 0, .int .u64 (n : Nat)] ∧ w = w' := by
  refine Does.enter Tryz.func106 Tryz.ntmps106 rfl (by rfl) ?_
  repeat' (first|refine X.O ?_|refine X.A ?_|refine X.B ?_|refine X.C ?_|refine X.D ?_|refine X.E ?_|refine X.F ?_|refine X.G ?_|refine X.H ?_|refine X.I ?_|fail)
  refine WL.call (Mul64_small n hn _) ?_
  rintro _ _ ⟨rfl, rfl⟩
  repeat' (first|refine X.O ?_|refine X.A ?_|refine X.B ?_|refine X.C ?_|refine X.D ?_|refine X.E ?_|refine X.F ?_|refine X.G ?_|refine X.H ?_|refine X.I ?_|fail)
  refine ⟨_, ret2 rfl (by rfl) (by rfl), ?_⟩
  exact ⟨rfl, rfl⟩
end Go.Proofs
/- A slice of ones by repetition. -/
namespace Go.Proofs
open Go Go.Fw Go.RowKit Go.Rk
theorem addr_add0 (g j : Nat) : (⟨g, 0, none⟩ : Addr).add j = ⟨g, j, none⟩ := by unfold Addr.add; split <;> simp_all
theorem onesZeros_step {n m : Nat} (h : m < n) : (List.replicate m (1 : Int) ++ List.replicate (n - m) 0).take m ++ List.replicate (Nat.min m (n - m)) 1 ++ (List.replicate m (1 : Int) ++ List.replicate (n - m) 0).drop (m + Nat.min m (n - m)) = List.replicate (m + Nat.min m (n - m)) 1 ++ List.replicate (n - (m + Nat.min m (n - m))) 0 := by
  have e1 : (List.replicate m (1 : Int) ++ List.replicate (n - m) 0).take m = List.replicate m 1 := by
    rw [List.take_append_of_le_length (by simp)]; simp
  have e2 : (List.replicate m (1 : Int) ++ List.replicate (n - m) 0).drop (m + Nat.min m (n - m)) = List.replicate (n - (m + Nat.min m (n - m))) 0 := by
    rw [List.drop_append]
    simp
    omega
  rw [e1, e2, List.replicate_append_replicate]
theorem Repeat_one {lo hi : Nat} {w : World} {v : Value} (n : Nat) (h : IS lo hi w v [1]) (h0 : 1 ≤ n) (h1 : n ≤ 8) : Does Tryz.prog 79 [v, .int .i64 (n : Nat)] w fun r w' => NewI w r w' (List.replicate n 1) := by
  have hz := h.hi_le
  obtain ⟨_, ad, cd, hv, _, _, hel⟩ := h
  obtain ⟨b, o, u, had, hlo, hhi, hcell, hu⟩ := hel 0 1 rfl
  unfold RI at hu
  subst hu had hv
  refine Does.enter Tryz.func79 Tryz.ntmps79 rfl (by rfl) ?_
  repeat' (first|refine X.O ?_|refine X.A ?_|refine X.B ?_|refine X.C ?_|refine X.D ?_|refine X.E ?_|refine X.F ?_|refine X.G ?_|refine X.H ?_|refine X.I ?_|fail)
  refine WL.step (o_convK (b := ((1 : Nat) : Int)) (by rfl) (wrap_u64 (by simp) (by simp)) ?_)
  repeat' (first|refine X.O ?_|refine X.A ?_|refine X.B ?_|refine X.C ?_|refine X.D ?_|refine X.E ?_|refine X.F ?_|refine X.G ?_|refine X.H ?_|refine X.I ?_|fail)
  refine WL.step (o_convK (b := (n : Nat)) (by rfl) (wrap_u64 (by omega) (by omega)) ?_)
  refine WL.call (Mul_small n h1 _) ?_
  rintro _ _ ⟨rfl, rfl⟩
  repeat' (first|refine X.O ?_|refine X.A ?_|refine X.B ?_|refine X.C ?_|refine X.D ?_|refine X.E ?_|refine X.F ?_|refine X.G ?_|refine X.H ?_|refine X.I ?_|fail)
  refine WL.step (o_cmpU (op := .gtr) (a := 0) (b := 0) (r := false) (by rfl) (by rfl) (by rfl) ?_)
  repeat' (first|refine X.O ?_|refine X.A ?_|refine X.B ?_|refine X.C ?_|refine X.D ?_|refine X.E ?_|refine X.F ?_|refine X.G ?_|refine X.H ?_|refine X.I ?_|fail)
  refine WL.step (o_cmpU (op := .gtr) (a := (n : Nat)) (b := 9223372036854775807) (r := false) (by show some (decide _) = some false; rw [decide_eq_false (by omega)]) (by rfl) (by rfl) ?_)
  repeat' (first|refine X.O ?_|refine X.A ?_|refine X.B ?_|refine X.C ?_|refine X.D ?_|refine X.E ?_|refine X.F ?_|refine X.G ?_|refine X.H ?_|refine X.I ?_|fail)
  refine WL.step (o_convK (b := (n : Nat)) (by rfl) (wrap_in (by unfold InI; omega)) ?_)
  refine WL.step (o_make (n := n) (by rfl) (by rfl) (by omega) (by unfold maxLen; omega) ?_)
  intro v1 w1 hown1 hbl1 hz1
  have e0 : List.replicate n (Value.int .i64 0) = Ints (List.replicate n 0) := by simp [Ints]
  rw [e0] at hown1
  obtain ⟨g, c, hv1, hg1, hg2, _, _, _⟩ := hown1.cell (i := 0) (u := .int .i64 0) (by rw [Ints_get, List.getElem?_replicate, if_pos (by omega)]; rfl)
  rw [Ints_length, List.length_replicate] at hv1
  subst hv1
  have hc := hown1.shape
  repeat' (first|refine X.O ?_|refine X.A ?_|refine X.B ?_|refine X.C ?_|refine X.D ?_|refine X.E ?_|refine X.F ?_|refine X.G ?_|refine X.H ?_|refine X.I ?_|fail)
  refine WL.step (o_copy (cs := Ints [1]) (us := Ints (List.replicate n 0)) (by rfl) (by rfl) hown1 (by show 1 = Nat.min 1 n; exact (Nat.min_eq_left h0).symm) (fun j x hx => ?_) (by simp [Ints]; omega) Ints_one ?_)
  · cases j with
    | zero =>
      simp [Ints] at hx
      subst hx
      have e1 : (⟨b, o, none⟩ : Addr).add 0 = ⟨b, o + 0, none⟩ := by unfold Addr.add; split <;> simp_all
      rw [e1, World.cell?_of_block (hbl1.block b (by omega))]
      exact hcell
    | succ j => simp [Ints] at hx
  intro w2 hown2 hbl2 hz2
  have e2 : (Ints (List.replicate n 0)).take 0 ++ Ints [1] ++ (Ints (List.replicate n 0)).drop (0 + (Ints [1]).length) = Ints (List.replicate 1 1 ++ List.replicate (n - 1) 0) := by simp [Ints]
  rw [e2] at hown2
  have hB2 := hbl1.trans hbl2
  repeat' (first|refine X.O ?_|refine X.A ?_|refine X.B ?_|refine X.C ?_|refine X.D ?_|refine X.E ?_|refine X.F ?_|refine X.G ?_|refine X.H ?_|refine X.I ?_|fail)
  refine WP.loop (fun (m : Nat) => [(7, .slice (some ⟨g, 0, none⟩) n c), (8, .int .i64 (m : Nat))])
    (fun m w3 => (1 ≤ m ∧ m ≤ n) ∧ Own w.heap.size 2 w3 (.slice (some ⟨g, 0, none⟩) n c) (Ints (List.replicate m 1 ++ List.replicate (n - m) 0)) ∧ Below w.heap.size w w3)
    (fun m => n - m) 1 ⟨rfl, rfl, trivial⟩ ⟨by omega, hown2, hB2⟩ ?_
  rintro m w3 ⟨hm, hown3, hbl3⟩
  repeat' (first|refine X.O ?_|refine X.A ?_|refine X.B ?_|refine X.C ?_|refine X.D ?_|refine X.E ?_|refine X.F ?_|refine X.G ?_|refine X.H ?_|refine X.I ?_|fail)
  first|refine X.J (fun _ => ?_) (fun _ => ?_)|refine X.L (fun _ => ?_) (fun _ => ?_)|refine X.M (fun _ => ?_) (fun _ => ?_)|refine X.R (fun _ => ?_) (fun _ => ?_)|fail
  · rename_i hlt
    have hltm : m < n := by omega
    have hcn : n ≤ c := by
      obtain ⟨a', c', he, hle, _⟩ := hown3.shape
      simp only [Value.slice.injEq] at he
      rw [← he.2.1] at hle
      omega
    repeat' (first|refine X.O ?_|refine X.A ?_|refine X.B ?_|refine X.C ?_|refine X.D ?_|refine X.E ?_|refine X.F ?_|refine X.G ?_|refine X.H ?_|refine X.I ?_|fail)
    refine WP.drawn (fun w' => Below w.heap.size w w') [(0, true), (1, true), (2, true), (3, true), (4, true), (5, true), (6, true), (7, false), (8, true), (9, true)] (by kernel_rfl) mixed ?_
    intro w4 hs4
    have hS4 : Below w.heap.size w w4 := hbl3.trans (hs4.below _)
    have hown4 := hown3.still hs4
    repeat' (first|refine X.U rfl ?_|refine X.V rfl ?_|refine X.W rfl ?_|refine X.Y rfl ?_|refine X.Z rfl ?_|refine WS.nil ?_|fail)
    refine WS.q rfl (q_sliceL (i := m) (by rfl) (by rfl) (by omega)) hS4 ?_
    repeat' (first|refine X.U rfl ?_|refine X.V rfl ?_|refine X.W rfl ?_|refine X.Y rfl ?_|refine X.Z rfl ?_|refine WS.nil ?_|fail)
    refine WS.q rfl (q_sliceH (i := m) (by rfl) (by rfl) (by omega)) hS4 ?_
    have ea : lowAddr (some ⟨g, 0, none⟩) c m = some ⟨g, m, none⟩ := by unfold lowAddr; rw [if_neg (by omega)]; simp [Addr.add]; omega
    rw [ea]
    have hmin : Nat.min m (n - m) ≤ m := Nat.min_le_left _ _
    have hmin2 : Nat.min m (n - m) ≤ n - m := Nat.min_le_right _ _
    have hmin3 : 1 ≤ Nat.min m (n - m) := Nat.le_min.2 ⟨hm.1, by omega⟩
    have hcl : (Ints (List.replicate (Nat.min m (n - m)) 1)).length = Nat.min m (n - m) := by simp [Ints]
    refine WS.op rfl (o_copy (cs := Ints (List.replicate (Nat.min m (n - m)) 1)) (us := Ints (List.replicate m 1 ++ List.replicate (n - m) 0)) (by rfl) (by rfl) hown4 hcl (fun j x hx => ?_) (by rw [hcl, Ints_length, List.length_append, List.length_replicate, List.length_replicate]; omega) Ints_one ?_)
    · have hj : j < Nat.min m (n - m) := by have := (List.getElem?_eq_some_iff.1 hx).1; omega
      have hjm : j < m := by have := Nat.min_le_left m (n - m); show j < m; exact Nat.lt_of_lt_of_le hj this
      rw [Ints_get, List.getElem?_replicate, if_pos hj] at hx
      simp at hx
      subst hx
      obtain ⟨g', c', he, _, _, hcell2, _, _⟩ := hown4.cell (i := j) (u := .int .i64 1) (by rw [Ints_get, List.getElem?_append_left (by simp; exact hjm), List.getElem?_replicate, if_pos hjm]; rfl)
      simp only [Value.slice.injEq, Option.some.injEq, Addr.mk.injEq] at he
      obtain ⟨⟨rfl, _⟩, _, _⟩ := he
      have e1 : (⟨g, 0, none⟩ : Addr).add j = ⟨g, j, none⟩ := addr_add0 g j
      rw [e1]
      exact hcell2
    · intro w5 hown5 hbl5 hz5
      have hS5 := hS4.trans hbl5
      refine ⟨hS5, ?_⟩
      rw [hcl] at hown5 ⊢
      have e3 : (Ints (List.replicate m 1 ++ List.replicate (n - m) 0)).take m ++ Ints (List.replicate (Nat.min m (n - m)) 1) ++ (Ints (List.replicate m 1 ++ List.replicate (n - m) 0)).drop (m + Nat.min m (n - m)) = Ints (List.replicate (m + Nat.min m (n - m)) 1 ++ List.replicate (n - (m + Nat.min m (n - m))) 0) := by
        rw [← onesZeros_step hltm]
        simp only [Ints, List.map_append, List.map_take, List.map_drop]
      rw [e3] at hown5
      repeat' (first|refine X.U rfl ?_|refine X.V rfl ?_|refine X.W rfl ?_|refine X.Y rfl ?_|refine X.Z rfl ?_|refine WS.nil ?_|fail)
      repeat' (first|refine X.O ?_|refine X.A ?_|refine X.B ?_|refine X.C ?_|refine X.D ?_|refine X.E ?_|refine X.F ?_|refine X.G ?_|refine X.H ?_|refine X.I ?_|fail)
      exact ⟨m + Nat.min m (n - m), ⟨rfl, (by first|rfl|exact X.T (by omega)), trivial⟩, ⟨by omega, hown5, hS5⟩, by omega⟩
  · rename_i hge
    obtain rfl : m = n := by omega
    rw [Nat.sub_self, List.replicate_zero, List.append_nil] at hown3
    repeat' (first|refine X.O ?_|refine X.A ?_|refine X.B ?_|refine X.C ?_|refine X.D ?_|refine X.E ?_|refine X.F ?_|refine X.G ?_|refine X.H ?_|refine X.I ?_|fail)
    refine ⟨_, ret1 rfl (by rfl), ?_⟩
    exact ⟨hown3, hbl3⟩
end Go.Proofs
