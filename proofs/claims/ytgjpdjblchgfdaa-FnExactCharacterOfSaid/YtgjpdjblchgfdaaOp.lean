/- The operations of the frame logic, one law for each kind. -/
import Derived.Test.YtgjpdjblchgfdaaFw
namespace Go.Fw
open Go

section
variable {P : Program} {N : Nat} {Q : Exit → Fr → World → Prop} {l : Fr} {w w' : World} {ops : Array Oper} {K : Fr → World → Prop}
variable {d : Nat} {ty : TypeId} {pos : String} {af : Array Edge} {g : Option (Nat × Bool)}

def cmpInt : BinOp → Int → Int → Option Bool
  | .eql, a, b => some (decide (a = b))
  | .neq, a, b => some (decide (a ≠ b))
  | .lss, a, b => some (decide (a < b))
  | .leq, a, b => some (decide (a ≤ b))
  | .gtr, a, b => some (decide (b < a))
  | .geq, a, b => some (decide (b ≤ a))
  | _, _, _ => none

/-- What the operations that look at the frame alone yield. -/
def simple (l : Fr) : Op → Option Value
  | .move x => ev l x
  | .assign x => ev l x
  | .pick c a b =>
    match ev l c with
    | some (.bool true) => ev l a
    | some (.bool false) => ev l b
    | _ => none
  | .binOp op _ x y _ =>
    match ev l x, ev l y with
    | some (.int .i64 a), some (.int .i64 b) =>
      match cmpInt op a b with
      | some r => some (.bool r)
      | none => none
    | some (.int .u8 a), some (.int .u8 b) =>
      match cmpInt op a b with
      | some r => some (.bool r)
      | none => none
    | _, _ => none
  | .unOp .not _ x =>
    match ev l x with
    | some (.bool b) => some (.bool !b)
    | _ => none
  | .extract t i =>
    match ev l t with
    | some (.tuple vs) => vs[i]?
    | _ => none
  | .makeFunc fn first captured =>
    match evs l first.toList, evs l captured.toList with
    | some a, some b => some (.func fn a.toArray b.toArray)
    | _, _ => none
  | _ => none

theorem run_eqGuardInt {op : BinOp} {a b : Int} (k : IntKind) (t : TypeId) (x y : Operand) : (eqGuard op t x y (.int k a) (.int k b)).run P w = .ok () w := by
  cases op <;> simp [eqGuard]
theorem run_cmpInt {op : BinOp} {a b : Int} {r : Bool} (k : IntKind) (t : TypeId) (h : cmpInt op a b = some r) :
    (binOp op t (.int k a) (.int k b)).run P w = .ok (.bool r) w := by
  cases op <;> simp only [cmpInt, Option.some.injEq, reduceCtorEq] at h <;> subst h <;> simp [binOp, Op.intCmp]
  all_goals (by_cases e : a = b <;> simp [e])

theorem run_simple {op : Op} {v : Value} {dst : Option Tmp} (h : simple l op = some v) (a : Act) (ha : Rep N a l) :
    (execOp a.eval ⟨dst, op, ty, pos, af, g⟩).run P w = .ok (.value v) w := by
  cases op <;> simp only [simple] at h
  case move x => simp [execOp, ha.ev h]
  case assign x => simp [execOp, ha.ev h]
  case pick c x y =>
    split at h
    · rename_i hc; simp [execOp, ha.ev hc, ha.ev h, asBool]
    · rename_i hc; simp [execOp, ha.ev hc, ha.ev h, asBool]
    · cases h
  case binOp op t x y t' =>
    split at h
    · rename_i p q hx hy
      split at h
      · rename_i r hr
        simp only [Option.some.injEq] at h
        subst h
        simp [execOp, ha.ev hx, ha.ev hy, run_eqGuardInt, run_cmpInt .i64 t hr]
      · cases h
    · rename_i p q hx hy
      split at h
      · rename_i r hr
        simp only [Option.some.injEq] at h
        subst h
        simp [execOp, ha.ev hx, ha.ev hy, run_eqGuardInt, run_cmpInt .u8 t hr]
      · cases h
    · cases h
  case unOp op t x =>
    cases op
    case not =>
      simp only at h
      split at h
      · rename_i b hb
        simp only [Option.some.injEq] at h
        subst h
        simp [execOp, ha.ev hb, Op.unary]
      · cases h
    all_goals cases h
  case extract t i =>
    split at h
    · rename_i vs hv
      simp [execOp, ha.ev hv, Instr.extract, h]
    · cases h
  case makeFunc fn first captured =>
    split at h
    · rename_i x y hx hy
      simp only [Option.some.injEq] at h
      subst h
      have h1 : first.map a.eval = x.toArray := by rw [← evs_map ha hx, ← Array.toList_map]
      have h2 : captured.map a.eval = y.toArray := by rw [← evs_map ha hy, ← Array.toList_map]
      simp [execOp, Instr.makeFunc, h1, h2]
    · cases h
  all_goals cases h

/-- An operation that looks at the frame alone. -/
theorem o_s {op : Op} {v : Value} (h : simple l op = some v) (k : K ((d, v) :: l) w)
    (hg : wantedL ops l g = some true := by rfl) (hd : Nat.blt d N = true := by rfl) : OpW P N ops Q ⟨some d, op, ty, pos, af, g⟩ l w K :=
  OpW.val (run_simple h) k hg hd

/-! The program's table of types, as far as an operation asks it. -/
/-- A slice type whose elements are of one cell. -/
class SliceTy (P : Program) (t : TypeId) (e : outParam TypeId) (z : outParam Value) (bytes : outParam Nat) : Prop where
  und : P.underlying t = some (.slice e)
  info : (P.info? e).map (fun i => (i.zero, i.size, i.bytes)) = some (some z, 1, bytes)
  one : z.cells = #[z]
/-- A type of one cell. -/
class CellTy (P : Program) (t : TypeId) : Prop where
  und : ∃ dsc, P.underlying t = some dsc ∧ (∀ fs, dsc ≠ .struct fs) ∧ (∀ n e, dsc ≠ .array n e)
  size : (P.info? t).map (·.size) = some 1
class StructTy (P : Program) (t : TypeId) (n : outParam Nat) (z : outParam (Array Value)) : Prop where
  und : ∃ fs, P.underlying t = some (.struct fs)
  size : (P.info? t).map (fun i => (i.zero, i.size)) = some (some (.agg z), n)
class IntTy (P : Program) (t : TypeId) (k : outParam IntKind) : Prop where
  und : P.underlying t = some (.int k)
class StrTy (P : Program) (t : TypeId) : Prop where
  und : P.underlying t = some .string
class FieldTy (P : Program) (s : TypeId) (f : Nat) (off : outParam Nat) : Prop where
  at_ : ∀ a w, (Instr.fieldAt s (.pointer (some a)) f).run P w = .ok (.pointer (some (a.add off))) w
/-- A type with a zero value of one cell. -/
class ZeroTy (P : Program) (t : TypeId) (z : outParam Value) : Prop where
  zero : (P.info? t).map (fun i => i.zero) = some (some z)

theorem o_len {t e : TypeId} {z : Value} {bytes : Nat} [h : SliceTy P t e z bytes] {x : Operand} {a : Option Addr} {n c : Nat}
    (hx : ev l x = some (.slice a n c)) (k : K ((d, .int .i64 n) :: l) w) (hg : wantedL ops l g = some true := by rfl) (hd : Nat.blt d N = true := by rfl) :
    OpW P N ops Q ⟨some d, .call { callee := .builtin .len, args := #[x], argTypes := #[t] }, ty, pos, af, g⟩ l w K :=
  OpW.val (fun fr ha => by simp [execOp, resolve, invoke, builtin, Builtin.len_, ha.ev hx, run_underlying h.und, goInt]) k hg hd

theorem o_lenS {t : TypeId} [h : StrTy P t] {x : Operand} {s : ByteArray}
    (hx : ev l x = some (.string s)) (k : K ((d, .int .i64 s.size) :: l) w) (hg : wantedL ops l g = some true := by rfl) (hd : Nat.blt d N = true := by rfl) :
    OpW P N ops Q ⟨some d, .call { callee := .builtin .len, args := #[x], argTypes := #[t] }, ty, pos, af, g⟩ l w K :=
  OpW.val (fun fr ha => by simp [execOp, resolve, invoke, builtin, Builtin.len_, ha.ev hx, run_underlying h.und, goInt]) k hg hd

/-- In the range of int64. -/
def InI (z : Int) : Prop := -9223372036854775808 ≤ z ∧ z ≤ 9223372036854775807

theorem wrap_in {z : Int} (h : InI z) : IntKind.i64.wrap z = z := by
  unfold InI at h
  have : z % 18446744073709551616 = if 0 ≤ z then z else z + 18446744073709551616 := by split <;> omega
  simp only [IntKind.wrap, IntKind.bits, IntKind.signed]
  show (if _ then _ else _) = z
  simp only [show (2 : Int) ^ 64 = 18446744073709551616 from by decide, show (2 : Int) ^ (64 - 1) = 9223372036854775808 from by decide, this]
  split <;> split at * <;> simp_all <;> omega

theorem o_add {x y : Operand} {t t' : TypeId} {a b : Int} (hx : ev l x = some (.int .i64 a)) (hy : ev l y = some (.int .i64 b)) (hb : InI (a + b)) (k : K ((d, .int .i64 (a + b)) :: l) w)
    (hg : wantedL ops l g = some true := by rfl) (hd : Nat.blt d N = true := by rfl) : OpW P N ops Q ⟨some d, .binOp .add t x y t', ty, pos, af, g⟩ l w K :=
  OpW.val (fun fr ha => by simp [execOp, ha.ev hx, ha.ev hy, eqGuard, binOp, Op.intArith, wrap_in hb]) k hg hd
theorem o_sub {x y : Operand} {t t' : TypeId} {a b : Int} (hx : ev l x = some (.int .i64 a)) (hy : ev l y = some (.int .i64 b)) (hb : InI (a - b)) (k : K ((d, .int .i64 (a - b)) :: l) w)
    (hg : wantedL ops l g = some true := by rfl) (hd : Nat.blt d N = true := by rfl) : OpW P N ops Q ⟨some d, .binOp .sub t x y t', ty, pos, af, g⟩ l w K :=
  OpW.val (fun fr ha => by simp [execOp, ha.ev hx, ha.ev hy, eqGuard, binOp, Op.intArith, wrap_in hb]) k hg hd
theorem o_mul {x y : Operand} {t t' : TypeId} {a b : Int} (hx : ev l x = some (.int .i64 a)) (hy : ev l y = some (.int .i64 b)) (hb : InI (a * b)) (k : K ((d, .int .i64 (a * b)) :: l) w)
    (hg : wantedL ops l g = some true := by rfl) (hd : Nat.blt d N = true := by rfl) : OpW P N ops Q ⟨some d, .binOp .mul t x y t', ty, pos, af, g⟩ l w K :=
  OpW.val (fun fr ha => by simp [execOp, ha.ev hx, ha.ev hy, eqGuard, binOp, Op.intArith, wrap_in hb]) k hg hd
theorem o_neg {x : Operand} {t : TypeId} {a : Int} (hx : ev l x = some (.int .i64 a)) (hb : InI (-a)) (k : K ((d, .int .i64 (-a)) :: l) w)
    (hg : wantedL ops l g = some true := by rfl) (hd : Nat.blt d N = true := by rfl) : OpW P N ops Q ⟨some d, .unOp .neg t x, ty, pos, af, g⟩ l w K :=
  OpW.val (fun fr ha => by simp [execOp, ha.ev hx, Op.unary, Op.intArith, wrap_in hb]) k hg hd
theorem o_rem {x y : Operand} {t t' : TypeId} {a b : Int} (hx : ev l x = some (.int .i64 a)) (hy : ev l y = some (.int .i64 b)) (hb : b ≠ 0) (k : K ((d, .int .i64 (a.tmod b)) :: l) w)
    (hg : wantedL ops l g = some true := by rfl) (hd : Nat.blt d N = true := by rfl) : OpW P N ops Q ⟨some d, .binOp .rem t x y t', ty, pos, af, g⟩ l w K :=
  OpW.val (fun fr ha => by simp [execOp, ha.ev hx, ha.ev hy, eqGuard, binOp, Op.intDiv, hb]) k hg hd
theorem o_quo {x y : Operand} {t t' : TypeId} {a b : Int} (hx : ev l x = some (.int .i64 a)) (hy : ev l y = some (.int .i64 b)) (hb : b ≠ 0) (hi : InI (a.tdiv b)) (k : K ((d, .int .i64 (a.tdiv b)) :: l) w)
    (hg : wantedL ops l g = some true := by rfl) (hd : Nat.blt d N = true := by rfl) : OpW P N ops Q ⟨some d, .binOp .quo t x y t', ty, pos, af, g⟩ l w K :=
  OpW.val (fun fr ha => by simp [execOp, ha.ev hx, ha.ev hy, eqGuard, binOp, Op.intDiv, hb, wrap_in hi]) k hg hd
/-- A conversion between int and int64. -/
theorem o_conv {t u : TypeId} [h1 : IntTy P t .i64] [h2 : IntTy P u .i64] {x : Operand} {a : Int} (hx : ev l x = some (.int .i64 a)) (hb : InI a) (k : K ((d, .int .i64 a) :: l) w)
    (hg : wantedL ops l g = some true := by rfl) (hd : Nat.blt d N = true := by rfl) : OpW P N ops Q ⟨some d, .convert t u x, ty, pos, af, g⟩ l w K :=
  OpW.val (fun fr ha => by simp [execOp, ha.ev hx, convert, run_underlying h1.und, run_underlying h2.und, Conv.intToInt, wrap_in hb]) k hg hd

theorem isAgg_cell {t : TypeId} [h : CellTy P t] : (isAgg t).run P w = .ok false w := by
  obtain ⟨dsc, h1, h2, h3⟩ := h.und
  cases dsc <;> simp_all [isAgg, run_underlying h1]

theorem run_loadAt_cell {t : TypeId} [CellTy P t] {a : Addr} {v : Value} (hc : w.cell? a = some v) : (Instr.loadAt t (.pointer (some a))).run P w = .ok v w := by
  simp [Instr.loadAt, Instr.sureAddr, loadVar, isAgg_cell, run_load, hc]

theorem o_load {t : TypeId} [CellTy P t] {x : Operand} {a : Addr} {v : Value} (hx : ev l x = some (.pointer (some a))) (hc : w.cell? a = some v) (k : K ((d, v) :: l) w)
    (hg : wantedL ops l g = some true := by rfl) (hd : Nat.blt d N = true := by rfl) : OpW P N ops Q ⟨some d, .load t x, ty, pos, af, g⟩ l w K :=
  OpW.val (fun fr ha => by simp [execOp, ha.ev hx, run_loadAt_cell hc]) k hg hd

theorem o_field {s : TypeId} {f off : Nat} [h : FieldTy P s f off] {x : Operand} {a : Addr} (hx : ev l x = some (.pointer (some a))) (k : K ((d, .pointer (some (a.add off))) :: l) w)
    (hg : wantedL ops l g = some true := by rfl) (hd : Nat.blt d N = true := by rfl) : OpW P N ops Q ⟨some d, .fieldAddr s x f, ty, pos, af, g⟩ l w K :=
  OpW.val (fun fr ha => by simp [execOp, ha.ev hx, h.at_]) k hg hd

theorem SliceTy.size {t e : TypeId} {z : Value} {bytes : Nat} (h : SliceTy P t e z bytes) : (sizeOf e).run P w = .ok 1 w := by
  have := h.info
  cases hi : P.info? e with
  | none => simp [hi] at this
  | some i => simp [hi] at this; simp [sizeOf, typeInfo, hi, this]

theorem run_indexAt_of {t e : TypeId} {z : Value} {bytes : Nat} [h : SliceTy P t e z bytes] {b o n c : Nat} {k : IntKind} {i : Int} (h0 : 0 ≤ i) (h1 : i < n) :
    (Instr.indexAt t (.slice (some ⟨b, o, none⟩) n c) (.int k i)).run P w = .ok (.pointer (some ⟨b, o + i.toNat, none⟩)) w := by
  simp [Instr.indexAt, asIntOf, run_underlying h.und, h0, h1, h.size, Addr.add]
  try (intro e; omega)

theorem o_ix {t e : TypeId} {z : Value} {bytes : Nat} [SliceTy P t e z bytes] {x y : Operand} {b o n c : Nat} {kk : IntKind} {i : Int} (hx : ev l x = some (.slice (some ⟨b, o, none⟩) n c)) (hi : ev l y = some (.int kk i))
    (h0 : 0 ≤ i) (h1 : i < n) (k : K ((d, .pointer (some ⟨b, o + i.toNat, none⟩)) :: l) w)
    (hg : wantedL ops l g = some true := by rfl) (hd : Nat.blt d N = true := by rfl) : OpW P N ops Q ⟨some d, .indexAddr t x y, ty, pos, af, g⟩ l w K :=
  OpW.val (fun fr ha => by simp [execOp, ha.ev hx, ha.ev hi, run_indexAt_of h0 h1]) k hg hd

theorem run_storeAt_cell {t : TypeId} [h : CellTy P t] {a : Addr} {v old : Value} (hv : v.oneCell' = true) (hc : w.cell? a = some old) (hf : w.frozen? a = false) :
    (Instr.storeAt t (.pointer (some a)) v).run P w = .ok () (w.setCell a v) := by
  have hs := h.size
  cases hi : P.info? t with
  | none => simp [hi] at hs
  | some i =>
    simp [hi] at hs
    have hz : v.cells = #[v] := by cases v <;> simp_all [Value.cells, Value.oneCell']
    simp [Instr.storeAt, Instr.sureAddr, storeVar, sizeOf, typeInfo, hi, hs, hz, storeCells, run_store P w a v .plain hv, hc, hf, Addr.add]

theorem o_store {t : TypeId} [CellTy P t] {x y : Operand} {a : Addr} {v old : Value} (hx : ev l x = some (.pointer (some a))) (hy : ev l y = some v) (hc : w.cell? a = some old) (hf : w.frozen? a = false)
    (k : K l (w.setCell a v)) (hv : v.oneCell' = true := by rfl)
    (hg : wantedL ops l g = some true := by rfl) : OpW P N ops Q ⟨none, .store t x y, ty, pos, af, g⟩ l w K :=
  OpW.unit (fun fr ha => by simp [execOp, ha.ev hx, ha.ev hy, run_storeAt_cell hv hc hf]) k hg

end
end Go.Fw
