/- The least of four integers; the order that the conditions imply, the program's. -/
import Derived.Test.YthepgmajeljdhaaDoorA17
namespace Go.Fw
open Go Go.RowKit
section
variable {P : Program} {N : Nat} {Q : Exit → Fr → World → Prop} {l : Fr} {w : World} {ops : Array Oper} {K : Fr → World → Prop}
variable {d : Nat} {ty : TypeId} {pos : String} {af : Array Edge} {g : Option (Nat × Bool)}
theorem min_if (a b : Int) : (if b < a then b else a) = min a b := by split <;> omega
theorem o_min4 {x1 x2 x3 x4 : Operand} {tys : Array TypeId} {a b c e : Int} (h1 : ev l x1 = some (.int .i64 a)) (h2 : ev l x2 = some (.int .i64 b)) (h3 : ev l x3 = some (.int .i64 c)) (h4 : ev l x4 = some (.int .i64 e))
    (k : K ((d, .int .i64 (min (min (min a b) c) e)) :: l) w) (hg : wantedL ops l g = some true := by rfl) (hd : Nat.blt d N = true := by rfl) :
    OpW P N ops Q ⟨some d, .call { callee := .builtin .min, args := #[x1, x2, x3, x4], argTypes := tys }, ty, pos, af, g⟩ l w K :=
  OpW.val (fun fr ha => by simp [execOp, resolve, invoke, builtin, Builtin.min_, Builtin.min2, ha.ev h1, ha.ev h2, ha.ev h3, ha.ev h4, min_if]) k hg hd
end
end Go.Fw
namespace Go.Proofs
open Go Go.Fw Go.RowKit Go.Rk
end Go.Proofs
