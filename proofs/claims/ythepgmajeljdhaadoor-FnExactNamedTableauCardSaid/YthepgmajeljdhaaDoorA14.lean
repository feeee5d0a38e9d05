/- The program's conditions on the quadrature, the stages and the columns. -/
import Derived.Test.YthepgmajeljdhaaDoorA3
import Derived.Test.YthepgmajeljdhaaDoorA5
import Derived.Test.YthepgmajeljdhaaDoorPlA
import Derived.Test.YthepgmajeljdhaaDoorHB
namespace Go.Proofs
open Go Go.Fw Go.RowKit Go.Rk

theorem zip_bd {xs ys : List Int} (hx : allN xs = true) (hy : allN ys = true) : 0 ≤ (List.zipWith (· * ·) xs ys).sum ∧ (List.zipWith (· * ·) xs ys).sum ≤ 100120036 * xs.length := by
  induction xs generalizing ys with
  | nil => simp
  | cons x xs ih =>
    cases ys with
    | nil => simp; omega
    | cons y ys =>
      rw [allN_cons, Bool.and_eq_true] at hx hy
      have h1 := isN_bd hx.1
      have h2 := isN_bd hy.1
      have h3 := mul_bd h1.1 h1.2 h2.1 h2.2
      have h4 := ih hx.2 hy.2
      simp only [List.zipWith_cons_cons, List.sum_cons, List.length_cons]
      omega
theorem zip_take_bd {xs ys : List Int} (hx : allN xs = true) (hy : allN ys = true) (i : Nat) : 0 ≤ ((List.zipWith (· * ·) xs ys).take i).sum ∧ ((List.zipWith (· * ·) xs ys).take i).sum ≤ 100120036 * xs.length := by
  rw [List.take_zipWith]
  have h := zip_bd (allN_take hx i) (allN_take hy i)
  have h2 : (xs.take i).length ≤ xs.length := by rw [List.length_take]; omega
  omega
theorem pow_at (a e : Int) (n : Nat) (hn : e = n) (h0 : 0 ≤ a) (h1 : a ≤ 10006) (he : n ≤ 1000000) (w : World) : Does Tryd.prog 63 [.int .i64 a, .int .i64 e] w fun r w' => r = .int .i64 (powN a n) ∧ Still w w' := by
  subst hn; exact pow_any a n h0 h1 he w
theorem l01Pow_at (a e : Int) (n : Nat) (hn : e = n) (h0 : 0 ≤ a) (h1 : a ≤ 10006) (he : n ≤ 1000000) (w : World) : Does Tryd.prog 82 [.int .i64 a, .int .i64 e] w fun r w' => r = .int .i64 (powN a n) ∧ w = w' := by
  subst hn; exact l01Pow_any a n h0 h1 he w

end Go.Proofs
/- The product of two small words, and a slice of ones by repetition: Go's library. -/
namespace Go.Fw
open Go Go.RowKit
theorem small_cases {n : Nat} (h : n ≤ 8) : n = 0 ∨ n = 1 ∨ n = 2 ∨ n = 3 ∨ n = 4 ∨ n = 5 ∨ n = 6 ∨ n = 7 ∨ n = 8 := by omega
section
variable {P : Program} {N : Nat} {Q : Exit → Fr → World → Prop} {l : Fr} {w : World} {ops : Array Oper} {K : Fr → World → Prop}
variable {d : Nat} {ty : TypeId} {pos : String} {af : Array Edge} {g : Option (Nat × Bool)}
theorem o_andU {x y : Operand} {t t' : TypeId} {n : Nat} (hn : n ≤ 8) (hx : ev l x = some (.int .u64 (n : Nat))) (hy : ev l y = some (.int .u64 4294967295)) (k : K ((d, .int .u64 (n : Nat)) :: l) w)
    (hg : wantedL ops l g = some true := by rfl) (hd : Nat.blt d N = true := by rfl) : OpW P N ops Q ⟨some d, .binOp .and t x y t', ty, pos, af, g⟩ l w K :=
  o_bin hx hy (fun w => by rcases small_cases hn with rfl | rfl | rfl | rfl | rfl | rfl | rfl | rfl | rfl <;> rfl) (fun w => run_eqGuardInt .u64 _ _ _) k hg hd
theorem o_shrU {x y : Operand} {t t' : TypeId} {n : Nat} (hn : n ≤ 8) (hx : ev l x = some (.int .u64 (n : Nat))) (hy : ev l y = some (.int .u64 32)) (k : K ((d, .int .u64 0) :: l) w)
    (hg : wantedL ops l g = some true := by rfl) (hd : Nat.blt d N = true := by rfl) : OpW P N ops Q ⟨some d, .binOp .shr t x y t', ty, pos, af, g⟩ l w K :=
  o_bin hx hy (fun w => by rcases small_cases hn with rfl | rfl | rfl | rfl | rfl | rfl | rfl | rfl | rfl <;> rfl) (fun w => run_eqGuardInt .u64 _ _ _) k hg hd
theorem o_mulU {x y : Operand} {t t' : TypeId} {a b c : Int} (hx : ev l x = some (.int .u64 a)) (hy : ev l y = some (.int .u64 b)) (hc : a * b = c) (h0 : 0 ≤ c) (h1 : c ≤ 1000) (k : K ((d, .int .u64 c) :: l) w)
    (hg : wantedL ops l g = some true := by rfl) (hd : Nat.blt d N = true := by rfl) : OpW P N ops Q ⟨some d, .binOp .mul t x y t', ty, pos, af, g⟩ l w K :=
  o_bin hx hy (fun w => by simp [binOp, Op.intArith, hc, wrap_u64 h0 (show c ≤ 18446744073709551615 by omega)]) (fun w => run_eqGuardInt .u64 _ _ _) k hg hd
theorem o_addU {x y : Operand} {t t' : TypeId} {a b c : Int} (hx : ev l x = some (.int .u64 a)) (hy : ev l y = some (.int .u64 b)) (hc : a + b = c) (h0 : 0 ≤ c) (h1 : c ≤ 1000) (k : K ((d, .int .u64 c) :: l) w)
    (hg : wantedL ops l g = some true := by rfl) (hd : Nat.blt d N = true := by rfl) : OpW P N ops Q ⟨some d, .binOp .add t x y t', ty, pos, af, g⟩ l w K :=
  o_bin hx hy (fun w => by simp [binOp, Op.intArith, hc, wrap_u64 h0 (show c ≤ 18446744073709551615 by omega)]) (fun w => run_eqGuardInt .u64 _ _ _) k hg hd
theorem o_cmpU {op : BinOp} {x y : Operand} {t t' : TypeId} {a b : Int} {r : Bool} (h : cmpInt op a b = some r) (hx : ev l x = some (.int .u64 a)) (hy : ev l y = some (.int .u64 b)) (k : K ((d, .bool r) :: l) w)
    (hg : wantedL ops l g = some true := by rfl) (hd : Nat.blt d N = true := by rfl) : OpW P N ops Q ⟨some d, .binOp op t x y t', ty, pos, af, g⟩ l w K :=
  o_bin hx hy (fun w => run_cmpInt .u64 t h) (fun w => run_eqGuardInt .u64 _ _ _) k hg hd
end
end Go.Fw
namespace Go.Proofs
open Go Go.Fw Go.RowKit Go.Rk
end Go.Proofs
/- A slice of ones by repetition. -/
namespace Go.Proofs
open Go Go.Fw Go.RowKit Go.Rk
theorem addr_add0 (g j : Nat) : (⟨g, 0, none⟩ : Addr).add j = ⟨g, j, none⟩ := by unfold Addr.add; split <;> simp_all
theorem onesZeros_step {n m : Nat} (h : m < n) : (List.replicate m (1 : Int) ++ List.replicate (n - m) 0).take m ++ List.replicate (Nat.min m (n - m)) 1 ++ (List.replicate m (1 : Int) ++ List.replicate (n - m) 0).drop (m + Nat.min m (n - m)) = List.replicate (m + Nat.min m (n - m)) 1 ++ List.replicate (n - (m + Nat.min m (n - m))) 0 := by
  have e1 : (List.replicate m (1 : Int) ++ List.replicate (n - m) 0).take m = List.replicate m 1 := by
    rw [List.take_append_of_le_length (by simp)]; simp
  have e2 : (List.replicate m (1 : Int) ++ List.replicate (n - m) 0).drop (m + Nat.min m (n - m)) = List.replicate (n - (m + Nat.min m (n - m))) 0 := by
    rw [List.drop_append]
    simp
    omega
  rw [e1, e2, List.replicate_append_replicate]
end Go.Proofs
