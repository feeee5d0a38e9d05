/- How inputs are drawn out of a code: the source, and the numbers that it gives. -/
import Derived.Test.YthepgmajeljdhaaDoorHB
import Derived.Test.YthepgmajeljdhaaDoorA5
set_option maxRecDepth 8000
namespace Go.Fw
open Go Go.RowKit
/-- A slice of bytes that is read. -/
def RU (_ _ : Nat) (_ : World) (u : Value) (x : Int) : Prop := u = .int .u8 x ∧ 0 ≤ x ∧ x ≤ 255
theorem RU.stable : Stable RU := ⟨fun _ _ _ _ _ _ _ _ h => h, fun _ _ _ _ _ _ _ _ _ _ h => h⟩
abbrev IU := SL RU
theorem wrap_i64u {z : Int} (h0 : 0 ≤ z) (h1 : z ≤ 9223372036854775807) : IntKind.i64.wrap z = z := wrap_in (by unfold InI; omega)
theorem wrap_u64_bd (z : Int) : 0 ≤ IntKind.u64.wrap z ∧ IntKind.u64.wrap z ≤ 18446744073709551615 := by rw [IntKind.wrap_u64]; omega
section
variable {P : Program} {N : Nat} {Q : Exit → Fr → World → Prop} {S : World → Prop} {l : Fr} {w : World} {ops : Array Oper} {K : Fr → World → Prop}
variable {d : Nat} {ty : TypeId} {pos : String} {af : Array Edge} {g : Option (Nat × Bool)}
theorem run_nilCheck {x : Operand} {b o : Nat} {dst : Option Tmp} (a : Act) (hx : a.eval x = .pointer (some ⟨b, o, none⟩)) : (execOp a.eval ⟨dst, .nilCheck x, ty, pos, af, g⟩).run P w = .ok (.value (.pointer (some ⟨b, o, none⟩))) w := by
  simp [execOp, hx]
theorem o_nilCheck {x : Operand} {b o : Nat} (hx : ev l x = some (.pointer (some ⟨b, o, none⟩))) (k : K ((d, .pointer (some ⟨b, o, none⟩)) :: l) w)
    (hg : wantedL ops l g = some true := by rfl) (hd : Nat.blt d N = true := by rfl) : OpW P N ops Q ⟨some d, .nilCheck x, ty, pos, af, g⟩ l w K :=
  OpW.val (fun fr ha => run_nilCheck fr (ha.ev hx)) k hg hd
theorem q_nilCheck {x : Operand} {b o : Nat} (hx : ev l x = some (.pointer (some ⟨b, o, none⟩)))
    (hg : wantedL ops l g = some true := by rfl) (hd : Nat.blt d N = true := by rfl) : QW P N ops S ⟨some d, .nilCheck x, ty, pos, af, g⟩ l d (.pointer (some ⟨b, o, none⟩)) :=
  QW.mk (fun fr ha _ _ => run_nilCheck fr (ha.ev hx)) hg hd
theorem run_arithU {op : BinOp} {t : TypeId} {a b c : Int} (h : (op = .add ∧ c = IntKind.u64.wrap (a + b)) ∨ (op = .mul ∧ c = IntKind.u64.wrap (a * b))) : (binOp op t (.int .u64 a) (.int .u64 b)).run P w = .ok (.int .u64 c) w := by
  rcases h with ⟨rfl, rfl⟩ | ⟨rfl, rfl⟩ <;> simp [binOp, Op.intArith]
theorem o_arithU {op : BinOp} {x y : Operand} {t t' : TypeId} {a b c : Int} (hx : ev l x = some (.int .u64 a)) (hy : ev l y = some (.int .u64 b)) (h : (op = .add ∧ c = IntKind.u64.wrap (a + b)) ∨ (op = .mul ∧ c = IntKind.u64.wrap (a * b))) (k : K ((d, .int .u64 c) :: l) w)
    (hg : wantedL ops l g = some true := by rfl) (hd : Nat.blt d N = true := by rfl) : OpW P N ops Q ⟨some d, .binOp op t x y t', ty, pos, af, g⟩ l w K :=
  o_bin hx hy (fun w => run_arithU h) (fun w => run_eqGuardInt .u64 _ _ _) k hg hd
theorem q_arithU {op : BinOp} {x y : Operand} {t t' : TypeId} {a b c : Int} (hx : ev l x = some (.int .u64 a)) (hy : ev l y = some (.int .u64 b)) (h : (op = .add ∧ c = IntKind.u64.wrap (a + b)) ∨ (op = .mul ∧ c = IntKind.u64.wrap (a * b)))
    (hg : wantedL ops l g = some true := by rfl) (hd : Nat.blt d N = true := by rfl) : QW P N ops S ⟨some d, .binOp op t x y t', ty, pos, af, g⟩ l d (.int .u64 c) :=
  QW.mk (fun fr ha w _ => by simp [execOp, ha.ev hx, ha.ev hy, run_eqGuardInt, run_arithU h]) hg hd
theorem q_convK {t u : TypeId} {k1 k2 : IntKind} [h1 : IntTy P t k1] [h2 : IntTy P u k2] {x : Operand} {a b : Int} (hx : ev l x = some (.int k1 a)) (hb : k2.wrap a = b)
    (hg : wantedL ops l g = some true := by rfl) (hd : Nat.blt d N = true := by rfl) : QW P N ops S ⟨some d, .convert t u x, ty, pos, af, g⟩ l d (.int k2 b) :=
  QW.mk (fun fr ha _ _ => by simp [execOp, ha.ev hx, convert, run_underlying h1.und, run_underlying h2.und, Conv.intToInt, hb]) hg hd
/-- (h >> 33) & 0xffffff: some number from 0 to 16777215. -/
theorem o_shr33 {x y : Operand} {t t' : TypeId} {a : Int} (hx : ev l x = some (.int .u64 a)) (hy : ev l y = some (.int .u64 33)) (h0 : 0 ≤ a) (k : ∀ b, 0 ≤ b → K ((d, .int .u64 b) :: l) w)
    (hg : wantedL ops l g = some true := by rfl) (hd : Nat.blt d N = true := by rfl) : OpW P N ops Q ⟨some d, .binOp .shr t x y t', ty, pos, af, g⟩ l w K :=
  o_bin hx hy (v := .int .u64 (a.fdiv (2 ^ 33))) (fun w => by simp [binOp, Op.shift, IntKind.bits]) (fun w => run_eqGuardInt .u64 _ _ _) (k _ (Int.fdiv_nonneg h0 (by decide))) hg hd
theorem o_and24 {x y : Operand} {t t' : TypeId} {a : Int} (hx : ev l x = some (.int .u64 a)) (hy : ev l y = some (.int .u64 16777215)) (k : ∀ b, 0 ≤ b → b ≤ 16777215 → K ((d, .int .u64 b) :: l) w)
    (hg : wantedL ops l g = some true := by rfl) (hd : Nat.blt d N = true := by rfl) : OpW P N ops Q ⟨some d, .binOp .and t x y t', ty, pos, af, g⟩ l w K := by
  have hb : (BitVec.ofInt 64 a &&& BitVec.ofInt 64 16777215).toNat ≤ 16777215 := by rw [BitVec.toNat_and]; exact Nat.le_trans Nat.and_le_right (by decide)
  have hw : IntKind.u64.wrap ((BitVec.ofInt 64 a &&& BitVec.ofInt 64 16777215).toNat : Int) = ((BitVec.ofInt 64 a &&& BitVec.ofInt 64 16777215).toNat : Int) := wrap_u64 (by omega) (by omega)
  refine o_bin hx hy (v := .int .u64 ((BitVec.ofInt 64 a &&& BitVec.ofInt 64 16777215).toNat : Int)) (fun w => ?_) (fun w => run_eqGuardInt .u64 _ _ _) (k _ (by omega) (by omega)) hg hd
  show (pure (Value.int .u64 (IntKind.u64.wrap ((BitVec.ofInt 64 a &&& BitVec.ofInt 64 16777215).toNat : Int))) : Sem Value).run P w = _
  rw [hw]
  simp
end
end Go.Fw
namespace Go.Proofs
open Go Go.Fw Go.RowKit Go.Rk
end Go.Proofs
