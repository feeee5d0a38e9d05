/- How inputs are drawn out of a code: the source, and the numbers that it gives. -/
import Derived.Test.YthepgmajeljdhaaGreatDoorHB
import Derived.Test.YthepgmajeljdhaaGreatDoorA5
set_option maxRecDepth 8000
namespace Go.Fw
open Go Go.RowKit
/-- A slice of bytes that is read. -/
def RU (_ _ : Nat) (_ : World) (u : Value) (x : Int) : Prop := u = .int .u8 x ∧ 0 ≤ x ∧ x ≤ 255
theorem RU.stable : Stable RU := ⟨fun _ _ _ _ _ _ _ _ h => h, fun _ _ _ _ _ _ _ _ _ _ h => h⟩
abbrev IU := SL RU
theorem wrap_i64u {z : Int} (h0 : 0 ≤ z) (h1 : z ≤ 9223372036854775807) : IntKind.i64.wrap z = z := wrap_in (by unfold InI; omega)
theorem wrap_u64_bd (z : Int) : 0 ≤ IntKind.u64.wrap z ∧ IntKind.u64.wrap z ≤ 18446744073709551615 := by rw [IntKind.wrap_u64]; omega
section
variable {P : Program} {N : Nat} {Q : Exit → Fr → World → Prop} {S : World → Prop} {l : Fr} {w : World} {ops : Array Oper} {K : Fr → World → Prop}
variable {d : Nat} {ty : TypeId} {pos : String} {af : Array Edge} {g : Option (Nat × Bool)}
theorem run_nilCheck {x : Operand} {b o : Nat} {dst : Option Tmp} (a : Act) (hx : a.eval x = .pointer (some ⟨b, o, none⟩)) : (execOp a.eval ⟨dst, .nilCheck x, ty, pos, af, g⟩).run P w = .ok (.value (.pointer (some ⟨b, o, none⟩))) w := by
  simp [execOp, hx]
theorem o_nilCheck {x : Operand} {b o : Nat} (hx : ev l x = some (.pointer (some ⟨b, o, none⟩))) (k : K ((d, .pointer (some ⟨b, o, none⟩)) :: l) w)
    (hg : wantedL ops l g = some true := by rfl) (hd : Nat.blt d N = true := by rfl) : OpW P N ops Q ⟨some d, .nilCheck x, ty, pos, af, g⟩ l w K :=
  OpW.val (fun fr ha => run_nilCheck fr (ha.ev hx)) k hg hd
theorem q_nilCheck {x : Operand} {b o : Nat} (hx : ev l x = some (.pointer (some ⟨b, o, none⟩)))
    (hg : wantedL ops l g = some true := by rfl) (hd : Nat.blt d N = true := by rfl) : QW P N ops S ⟨some d, .nilCheck x, ty, pos, af, g⟩ l d (.pointer (some ⟨b, o, none⟩)) :=
  QW.mk (fun fr ha _ _ => run_nilCheck fr (ha.ev hx)) hg hd
theorem run_arithU {op : BinOp} {t : TypeId} {a b c : Int} (h : (op = .add ∧ c = IntKind.u64.wrap (a + b)) ∨ (op = .mul ∧ c = IntKind.u64.wrap (a * b))) : (binOp op t (.int .u64 a) (.int .u64 b)).run P w = .ok (.int .u64 c) w := by
  rcases h with ⟨rfl, rfl⟩ | ⟨rfl, rfl⟩ <;> simp [binOp, Op.intArith]
theorem o_arithU {op : BinOp} {x y : Operand} {t t' : TypeId} {a b c : Int} (hx : ev l x = some (.int .u64 a)) (hy : ev l y = some (.int .u64 b)) (h : (op = .add ∧ c = IntKind.u64.wrap (a + b)) ∨ (op = .mul ∧ c = IntKind.u64.wrap (a * b))) (k : K ((d, .int .u64 c) :: l) w)
    (hg : wantedL ops l g = some true := by rfl) (hd : Nat.blt d N = true := by rfl) : OpW P N ops Q ⟨some d, .binOp op t x y t', ty, pos, af, g⟩ l w K :=
  o_bin hx hy (fun w => run_arithU h) (fun w => run_eqGuardInt .u64 _ _ _) k hg hd
theorem q_arithU {op : BinOp} {x y : Operand} {t t' : TypeId} {a b c : Int} (hx : ev l x = some (.int .u64 a)) (hy : ev l y = some (.int .u64 b)) (h : (op = .add ∧ c = IntKind.u64.wrap (a + b)) ∨ (op = .mul ∧ c = IntKind.u64.wrap (a * b)))
    (hg : wantedL ops l g = some true := by rfl) (hd : Nat.blt d N = true := by rfl) : QW P N ops S ⟨some d, .binOp op t x y t', ty, pos, af, g⟩ l d (.int .u64 c) :=
  QW.mk (fun fr ha w _ => by simp [execOp, ha.ev hx, ha.ev hy, run_eqGuardInt, run_arithU h]) hg hd
theorem q_convK {t u : TypeId} {k1 k2 : IntKind} [h1 : IntTy P t k1] [h2 : IntTy P u k2] {x : Operand} {a b : Int} (hx : ev l x = some (.int k1 a)) (hb : k2.wrap a = b)
    (hg : wantedL ops l g = some true := by rfl) (hd : Nat.blt d N = true := by rfl) : QW P N ops S ⟨some d, .convert t u x, ty, pos, af, g⟩ l d (.int k2 b) :=
  QW.mk (fun fr ha _ _ => by simp [execOp, ha.ev hx, convert, run_underlying h1.und, run_underlying h2.und, Conv.intToInt, hb]) hg hd
/-- (h >> 33) & 0xffffff: some number from 0 to 16777215. -/
theorem o_shr33 {x y : Operand} {t t' : TypeId} {a : Int} (hx : ev l x = some (.int .u64 a)) (hy : ev l y = some (.int .u64 33)) (h0 : 0 ≤ a) (k : ∀ b, 0 ≤ b → K ((d, .int .u64 b) :: l) w)
    (hg : wantedL ops l g = some true := by rfl) (hd : Nat.blt d N = true := by rfl) : OpW P N ops Q ⟨some d, .binOp .shr t x y t', ty, pos, af, g⟩ l w K :=
  o_bin hx hy (v := .int .u64 (a.fdiv (2 ^ 33))) (fun w => by simp [binOp, Op.shift, IntKind.bits]) (fun w => run_eqGuardInt .u64 _ _ _) (k _ (Int.fdiv_nonneg h0 (by decide))) hg hd
theorem o_and24 {x y : Operand} {t t' : TypeId} {a : Int} (hx : ev l x = some (.int .u64 a)) (hy : ev l y = some (.int .u64 16777215)) (k : ∀ b, 0 ≤ b → b ≤ 16777215 → K ((d, .int .u64 b) :: l) w)
    (hg : wantedL ops l g = some true := by rfl) (hd : Nat.blt d N = true := by rfl) : OpW P N ops Q ⟨some d, .binOp .and t x y t', ty, pos, af, g⟩ l w K := by
  have hb : (BitVec.ofInt 64 a &&& BitVec.ofInt 64 16777215).toNat ≤ 16777215 := by rw [BitVec.toNat_and]; exact Nat.le_trans Nat.and_le_right (by decide)
  have hw : IntKind.u64.wrap ((BitVec.ofInt 64 a &&& BitVec.ofInt 64 16777215).toNat : Int) = ((BitVec.ofInt 64 a &&& BitVec.ofInt 64 16777215).toNat : Int) := wrap_u64 (by omega) (by omega)
  refine o_bin hx hy (v := .int .u64 ((BitVec.ofInt 64 a &&& BitVec.ofInt 64 16777215).toNat : Int)) (fun w => ?_) (fun w => run_eqGuardInt .u64 _ _ _) (k _ (by omega) (by omega)) hg hd
  show (pure (Value.int .u64 (IntKind.u64.wrap ((BitVec.ofInt 64 a &&& BitVec.ofInt 64 16777215).toNat : Int))) : Sem Value).run P w = _
  rw [hw]
  simp
end
/-- The source sb over the code. -/
def Srce (sb : Nat) (w : World) : Prop := ∃ (lo hi : Nat) (cv : Value) (bs : List Int) (n : Nat) (h : Int), hi ≤ sb ∧ IU lo hi w cv bs ∧ (n ≤ bs.length ∧ bs.length ≤ 4096) ∧ 0 ≤ h ∧ h ≤ 18446744073709551615 ∧ Blk w sb [cv, .int .i64 n, .int .u64 h] 78
theorem Srce.lt {sb : Nat} {w : World} (h : Srce sb w) : sb < w.heap.size := by obtain ⟨_, _, _, _, _, _, _, _, _, _, _, h⟩ := h; exact h.lt
theorem Srce.chg {sb a b : Nat} {w w' : World} (h : Srce sb w) (hc : Chg a b w w') (hd : sb < a ∨ b = 0) : Srce sb w' := by
  obtain ⟨lo, hi, cv, bs, n, h0, h1, h2, h3, h4, h5, h6⟩ := h
  exact ⟨lo, hi, cv, bs, n, h0, h1, SL.chg RU.stable h2 hc (by omega), h3, h4, h5, h6.chg hc (by omega)⟩
theorem Srce.below {sb B : Nat} {w w' : World} (h : Srce sb w) (hb : Below B w w') (hB : sb < B) : Srce sb w' := by
  obtain ⟨lo, hi, cv, bs, n, h0, h1, h2, h3, h4, h5, h6⟩ := h
  exact ⟨lo, hi, cv, bs, n, h0, h1, h2.below RU.stable hb (by omega), h3, h4, h5, h6.below hb hB⟩
/-- What a draw leaves. -/
structure Drew (sb : Nat) (w w' : World) : Prop where
  src : Srce sb w'
  chg : Chg sb (sb + 1) w w'
theorem Drew.trans {sb : Nat} {a b c : World} (h : Drew sb a b) (h' : Drew sb b c) : Drew sb a c := ⟨h'.src, h.chg.trans h'.chg⟩
theorem Drew.thenBelow {sb : Nat} {a b c : World} (h : Drew sb a b) (h' : Below a.heap.size b c) (hs : sb < a.heap.size) : Drew sb a c := ⟨h.src.below h' hs, h.chg.thenBelow h'⟩
theorem Drew.refl {sb : Nat} {w : World} (h : Srce sb w) : Drew sb w w := ⟨h, Chg.refl _ _ _⟩
end Go.Fw
namespace Go.Proofs
open Go Go.Fw Go.RowKit Go.Rk
theorem l01Next_any {sb : Nat} {w : World} (h : Srce sb w) (n : Int) (hn : n ≤ 9223372036854775807) :
    Does Tryz.prog 39 [.pointer (some ⟨sb, 0, none⟩), .int .i64 n] w fun r w' => (∃ v, r = .int .i64 v ∧ (n < 1 → v = 0) ∧ (1 ≤ n → 0 ≤ v ∧ v < n)) ∧ Drew sb w w' := by
  have h' := h
  obtain ⟨lo, hi, cv, bs, m, h0, hle, hcode, hm, h4, h5, hb⟩ := h
  obtain ⟨ac, cc, hcv⟩ := hcode.shape
  subst hcv
  have hlen := hcode.len
  unfold maxLen at hlen
  refine Does.enter Tryz.func39 Tryz.ntmps39 rfl (by rfl) ?_
  repeat' (first|refine X.O ?_|refine X.A ?_|refine X.B ?_|refine X.C ?_|refine X.D ?_|refine X.E ?_|refine X.F ?_|refine X.G ?_|refine X.H ?_|refine X.I ?_|fail)
  first|refine X.J (fun _ => ?_) (fun _ => ?_)|refine X.L (fun _ => ?_) (fun _ => ?_)|refine X.M (fun _ => ?_) (fun _ => ?_)|refine X.R (fun _ => ?_) (fun _ => ?_)|fail
  · rename_i hlt
    repeat' (first|refine X.O ?_|refine X.A ?_|refine X.B ?_|refine X.C ?_|refine X.D ?_|refine X.E ?_|refine X.F ?_|refine X.G ?_|refine X.H ?_|refine X.I ?_|fail)
    refine ⟨_, ret1 rfl (by rfl), ?_⟩
    exact ⟨⟨0, rfl, fun _ => rfl, fun h => by omega⟩, Drew.refl h'⟩
  · rename_i hge
    repeat' (first|refine X.O ?_|refine X.A ?_|refine X.B ?_|refine X.C ?_|refine X.D ?_|refine X.E ?_|refine X.F ?_|refine X.G ?_|refine X.H ?_|refine X.I ?_|fail)
    refine WL.step (o_nilCheck (by rfl) ?_)
    refine WL.fld hb ?_
    intro p1
    refine WL.step (o_arithU (by rfl) (by rfl) (Or.inr ⟨rfl, rfl⟩) ?_)
    refine WL.step (o_arithU (by rfl) (by rfl) (Or.inl ⟨rfl, rfl⟩) ?_)
    refine WL.step (o_nilCheck (by rfl) ?_)
    refine WL.fldst hb ?_
    intro p2 w1 hb1 hbut1
    have hz1 := hbut1.size
    obtain ⟨hh, hhe⟩ : ∃ hh, IntKind.u64.wrap (IntKind.u64.wrap (h0 * 6364136223846793005) + 1442695040888963407) = hh := ⟨_, rfl⟩
    rw [hhe] at hb1
    have hhb : 0 ≤ hh ∧ hh ≤ 18446744073709551615 := by rw [← hhe]; exact wrap_u64_bd _
    have hb1' : Blk w1 sb [.slice ac bs.length cc, .int .i64 (m : Nat), .int .u64 hh] 78 := hb1
    have hcode1 := SL.chg RU.stable hcode hbut1.chg (by omega)
    repeat' (first|refine X.O ?_|refine X.A ?_|refine X.B ?_|refine X.C ?_|refine X.D ?_|refine X.E ?_|refine X.F ?_|refine X.G ?_|refine X.H ?_|refine X.I ?_|fail)
    refine WL.step (o_nilCheck (by rfl) ?_)
    refine WL.fld hb1' ?_
    intro p3
    refine WL.step (o_shr33 (by rfl) (by rfl) hhb.1 ?_)
    intro b1 hb10
    refine WL.step (o_and24 (by rfl) (by rfl) ?_)
    intro b2 hb20 hb21
    refine WL.step (o_convK (by rfl) (wrap_i64u hb20 (by omega)) ?_)
    repeat' (first|refine X.O ?_|refine X.A ?_|refine X.B ?_|refine X.C ?_|refine X.D ?_|refine X.E ?_|refine X.F ?_|refine X.G ?_|refine X.H ?_|refine X.I ?_|fail)
    refine WP.drawn (fun w' => w'.heap = w1.heap) [(0, true), (1, true), (2, true), (3, true), (4, true), (5, true), (6, true), (7, true), (8, true), (9, true)] (by kernel_rfl) mixed ?_
    intro w2 hs2
    have hw2 : w2.heap = w1.heap := hs2.heap
    repeat' (first|refine X.U rfl ?_|refine X.V rfl ?_|refine X.W rfl ?_|refine X.Y rfl ?_|refine X.Z rfl ?_|refine WS.nil ?_|fail)
    refine WS.q rfl (q_nilCheck (by rfl)) hw2 ?_
    refine WS.fld rfl rfl (fun w' h => hb1'.keep (by rw [h])) hw2 ?_
    intro p4
    repeat' (first|refine X.U rfl ?_|refine X.V rfl ?_|refine X.W rfl ?_|refine X.Y rfl ?_|refine X.Z rfl ?_|refine WS.nil ?_|fail)
    refine WS.q rfl (q_nilCheck (by rfl)) hw2 ?_
    refine WS.fld rfl rfl (fun w' h => hb1'.keep (by rw [h])) hw2 ?_
    intro p5
    repeat' (first|refine X.U rfl ?_|refine X.V rfl ?_|refine X.W rfl ?_|refine X.Y rfl ?_|refine X.Z rfl ?_|refine WS.nil ?_|fail)
    have hb2' := hb1'.still hs2
    have hcode2 := hcode1.still RU.stable hs2
    have hc2 : Chg sb (sb + 1) w w2 := hbut1.chg.trans (Chg.of_still hs2).none
    repeat' (first|refine X.O ?_|refine X.A ?_|refine X.B ?_|refine X.C ?_|refine X.D ?_|refine X.E ?_|refine X.F ?_|refine X.G ?_|refine X.H ?_|refine X.I ?_|fail)
    first|refine X.J (fun _ => ?_) (fun _ => ?_)|refine X.L (fun _ => ?_) (fun _ => ?_)|refine X.M (fun _ => ?_) (fun _ => ?_)|refine X.R (fun _ => ?_) (fun _ => ?_)|fail
    · rename_i hml
      have hlm : m < bs.length := by omega
      repeat' (first|refine X.O ?_|refine X.A ?_|refine X.B ?_|refine X.C ?_|refine X.D ?_|refine X.E ?_|refine X.F ?_|refine X.G ?_|refine X.H ?_|refine X.I ?_|fail)
      refine WP.drawn (fun w' => w'.heap = w2.heap) [(0, true), (1, true), (2, true), (3, true), (4, true), (5, true), (6, true), (7, true), (8, true), (9, true), (10, true), (11, true), (12, true), (13, true)] (by kernel_rfl) mixed ?_
      intro w3 hs3
      have hw3 : w3.heap = w2.heap := hs3.heap
      repeat' (first|refine X.U rfl ?_|refine X.V rfl ?_|refine X.W rfl ?_|refine X.Y rfl ?_|refine X.Z rfl ?_|refine WS.nil ?_|fail)
      refine WS.q rfl (q_nilCheck (by rfl)) hw3 ?_
      refine WS.fld rfl rfl (fun w' h => hb2'.keep (by rw [h])) hw3 ?_
      intro p6
      repeat' (first|refine X.U rfl ?_|refine X.V rfl ?_|refine X.W rfl ?_|refine X.Y rfl ?_|refine X.Z rfl ?_|refine WS.nil ?_|fail)
      refine WS.q rfl (q_nilCheck (by rfl)) hw3 ?_
      refine WS.fld rfl rfl (fun w' h => hb2'.keep (by rw [h])) hw3 ?_
      intro p7
      refine WS.ixload (j := m) rfl rfl (hcode2.still RU.stable hs3) (List.getElem?_eq_getElem hlm) (fun w' hw' => same_heap (hw'.trans hw3.symm)) hw3 ?_
      rintro p8 _ ⟨rfl, hu0, hu1⟩
      refine WS.q rfl (q_convK (by rfl) (wrap_i64u hu0 (by omega))) hw3 ?_
      repeat' (first|refine X.U rfl ?_|refine X.V rfl ?_|refine X.W rfl ?_|refine X.Y rfl ?_|refine X.Z rfl ?_|refine WS.nil ?_|fail)
      have hb3' := hb2'.still hs3
      have hcode3 := hcode2.still RU.stable hs3
      have hc3 : Chg sb (sb + 1) w w3 := hc2.trans (Chg.of_still hs3).none
      repeat' (first|refine X.O ?_|refine X.A ?_|refine X.B ?_|refine X.C ?_|refine X.D ?_|refine X.E ?_|refine X.F ?_|refine X.G ?_|refine X.H ?_|refine X.I ?_|fail)
      refine WL.step (o_nilCheck (by rfl) ?_)
      refine WL.fld hb3' ?_
      intro p9
      repeat' (first|refine X.O ?_|refine X.A ?_|refine X.B ?_|refine X.C ?_|refine X.D ?_|refine X.E ?_|refine X.F ?_|refine X.G ?_|refine X.H ?_|refine X.I ?_|fail)
      refine WL.step (o_nilCheck (by rfl) ?_)
      refine WL.fldst hb3' ?_
      intro p10 w4 hb4 hbut4
      have hz4 := hbut4.size
      have hc4 : Chg sb (sb + 1) w w4 := hc3.trans hbut4.chg
      repeat' (first|refine X.O ?_|refine X.A ?_|refine X.B ?_|refine X.C ?_|refine X.D ?_|refine X.E ?_|refine X.F ?_|refine X.G ?_|refine X.H ?_|refine X.I ?_|fail)
      refine WL.step (o_rem (by rfl) (by rfl) (by omega) ?_)
      repeat' (first|refine X.O ?_|refine X.A ?_|refine X.B ?_|refine X.C ?_|refine X.D ?_|refine X.E ?_|refine X.F ?_|refine X.G ?_|refine X.H ?_|refine X.I ?_|fail)
      refine ⟨_, ret1 rfl (by rfl), ?_⟩
      refine ⟨⟨_, rfl, fun h => by omega, fun h => ?_⟩, ⟨lo, hi, _, bs, m + 1, hh, hle, SL.chg RU.stable hcode3 hbut4.chg (by omega), ⟨by omega, hm.2⟩, hhb.1, hhb.2, hb4⟩, hc4⟩
      exact ⟨Int.tmod_nonneg _ (by omega), Int.tmod_lt_of_pos _ (by omega)⟩
    · rename_i hml
      repeat' (first|refine X.O ?_|refine X.A ?_|refine X.B ?_|refine X.C ?_|refine X.D ?_|refine X.E ?_|refine X.F ?_|refine X.G ?_|refine X.H ?_|refine X.I ?_|fail)
      refine WL.step (o_rem (by rfl) (by rfl) (by omega) ?_)
      repeat' (first|refine X.O ?_|refine X.A ?_|refine X.B ?_|refine X.C ?_|refine X.D ?_|refine X.E ?_|refine X.F ?_|refine X.G ?_|refine X.H ?_|refine X.I ?_|fail)
      refine ⟨_, ret1 rfl (by rfl), ?_⟩
      refine ⟨⟨_, rfl, fun h => by omega, fun h => ?_⟩, ⟨lo, hi, _, bs, m, hh, hle, hcode2, hm, hhb.1, hhb.2, hb2'⟩, hc2⟩
      exact ⟨Int.tmod_nonneg _ (by omega), Int.tmod_lt_of_pos _ (by omega)⟩
theorem l01Pick_any {sb lo hi : Nat} {w : World} {v : Value} {xs : List Int} (h : Srce sb w) (h' : IS lo hi w v xs) (hd : sb < lo) (hp : 1 ≤ xs.length) :
    Does Tryz.prog 41 [.pointer (some ⟨sb, 0, none⟩), v] w fun r w' => (∃ y, r = .int .i64 y ∧ y ∈ xs) ∧ Drew sb w w' := by
  obtain ⟨a, c, hv⟩ := h'.shape
  subst hv
  have hm := h'.len
  unfold maxLen at hm
  refine Does.enter Tryz.func41 Tryz.ntmps41 rfl (by rfl) ?_
  repeat' (first|refine X.O ?_|refine X.A ?_|refine X.B ?_|refine X.C ?_|refine X.D ?_|refine X.E ?_|refine X.F ?_|refine X.G ?_|refine X.H ?_|refine X.I ?_|fail)
  refine WL.call (l01Next_any h (xs.length : Nat) (by omega)) ?_
  rintro _ w1 ⟨⟨y, rfl, _, hy⟩, hdr⟩
  have hy := hy (by omega)
  have hli : y.toNat < xs.length := by omega
  refine WL.ixload (j := y.toNat) (RI.chg h' hdr.chg (by omega)) (List.getElem?_eq_getElem hli) ?_
  rintro p _ rfl
  repeat' (first|refine X.O ?_|refine X.A ?_|refine X.B ?_|refine X.C ?_|refine X.D ?_|refine X.E ?_|refine X.F ?_|refine X.G ?_|refine X.H ?_|refine X.I ?_|fail)
  refine ⟨_, ret1 rfl (by rfl), ?_⟩
  exact ⟨⟨_, rfl, List.getElem_mem hli⟩, hdr⟩
theorem l01Number_any {sb : Nat} {w : World} (h : Srce sb w) : Does Tryz.prog 97 [.pointer (some ⟨sb, 0, none⟩)] w fun r w' => (∃ y, r = .int .i64 y ∧ 0 ≤ y ∧ y ≤ 10006) ∧ Drew sb w w' := by
  have hlt := h.lt
  refine Does.enter Tryz.func97 Tryz.ntmps97 rfl (by rfl) ?_
  repeat' (first|refine X.O ?_|refine X.A ?_|refine X.B ?_|refine X.C ?_|refine X.D ?_|refine X.E ?_|refine X.F ?_|refine X.G ?_|refine X.H ?_|refine X.I ?_|fail)
  refine WL.call (l01Next_any h 5 (by omega)) ?_
  rintro _ w1 ⟨⟨y, rfl, _, hy⟩, hdr⟩
  repeat' (first|refine X.O ?_|refine X.A ?_|refine X.B ?_|refine X.C ?_|refine X.D ?_|refine X.E ?_|refine X.F ?_|refine X.G ?_|refine X.H ?_|refine X.I ?_|fail)
  first|refine X.J (fun _ => ?_) (fun _ => ?_)|refine X.L (fun _ => ?_) (fun _ => ?_)|refine X.M (fun _ => ?_) (fun _ => ?_)|refine X.R (fun _ => ?_) (fun _ => ?_)|fail
  · repeat' (first|refine X.O ?_|refine X.A ?_|refine X.B ?_|refine X.C ?_|refine X.D ?_|refine X.E ?_|refine X.F ?_|refine X.G ?_|refine X.H ?_|refine X.I ?_|fail)
    refine WL.call (l01Next_any hdr.src 10007 (by omega)) ?_
    rintro _ w2 ⟨⟨z, rfl, _, hz⟩, hdr2⟩
    have hz := hz (by omega)
    repeat' (first|refine X.O ?_|refine X.A ?_|refine X.B ?_|refine X.C ?_|refine X.D ?_|refine X.E ?_|refine X.F ?_|refine X.G ?_|refine X.H ?_|refine X.I ?_|fail)
    refine ⟨_, ret1 rfl (by rfl), ?_⟩
    exact ⟨⟨z, rfl, by omega, by omega⟩, hdr.trans hdr2⟩
  · repeat' (first|refine X.O ?_|refine X.A ?_|refine X.B ?_|refine X.C ?_|refine X.D ?_|refine X.E ?_|refine X.F ?_|refine X.G ?_|refine X.H ?_|refine X.I ?_|fail)
    first|refine X.J (fun _ => ?_) (fun _ => ?_)|refine X.L (fun _ => ?_) (fun _ => ?_)|refine X.M (fun _ => ?_) (fun _ => ?_)|refine X.R (fun _ => ?_) (fun _ => ?_)|fail
    · repeat' (first|refine X.O ?_|refine X.A ?_|refine X.B ?_|refine X.C ?_|refine X.D ?_|refine X.E ?_|refine X.F ?_|refine X.G ?_|refine X.H ?_|refine X.I ?_|fail)
      refine WL.step (o_lit (us := Ints [0, 1, 0, 1, 10006, 2]) (by rfl) (by rfl) rfl (by decide) Ints_one ?_)
      intro v2 w2 hown2 hbl2 hz2 _
      have hz1 := hdr.chg.size
      refine WL.call (l01Pick_any (xs := [0, 1, 0, 1, 10006, 2]) (hdr.src.below hbl2 (by omega)) (hown2.toIS (Nat.le_refl _)) (by omega) (by decide)) ?_
      rintro _ w3 ⟨⟨z, rfl, hz⟩, hdr3⟩
      repeat' (first|refine X.O ?_|refine X.A ?_|refine X.B ?_|refine X.C ?_|refine X.D ?_|refine X.E ?_|refine X.F ?_|refine X.G ?_|refine X.H ?_|refine X.I ?_|fail)
      refine ⟨_, ret1 rfl (by rfl), ?_⟩
      refine ⟨⟨z, rfl, ?_⟩, (hdr.thenBelow (Below.mono hbl2 (by omega)) hlt).trans hdr3⟩
      simp only [List.mem_cons, List.not_mem_nil, or_false] at hz
      omega
    · repeat' (first|refine X.O ?_|refine X.A ?_|refine X.B ?_|refine X.C ?_|refine X.D ?_|refine X.E ?_|refine X.F ?_|refine X.G ?_|refine X.H ?_|refine X.I ?_|fail)
      refine WL.call (l01Next_any hdr.src 15 (by omega)) ?_
      rintro _ w2 ⟨⟨z, rfl, _, hz⟩, hdr2⟩
      have hz := hz (by omega)
      repeat' (first|refine X.O ?_|refine X.A ?_|refine X.B ?_|refine X.C ?_|refine X.D ?_|refine X.E ?_|refine X.F ?_|refine X.G ?_|refine X.H ?_|refine X.I ?_|fail)
      refine WL.call (l01Next_any hdr2.src 12 (by omega)) ?_
      rintro _ w3 ⟨⟨q, rfl, _, hq⟩, hdr3⟩
      have hq := hq (by omega)
      repeat' (first|refine X.O ?_|refine X.A ?_|refine X.B ?_|refine X.C ?_|refine X.D ?_|refine X.E ?_|refine X.F ?_|refine X.G ?_|refine X.H ?_|refine X.I ?_|fail)
      refine WL.call (l01Frac_any _ _ _) ?_
      rintro _ _ ⟨rfl, rfl⟩
      repeat' (first|refine X.O ?_|refine X.A ?_|refine X.B ?_|refine X.C ?_|refine X.D ?_|refine X.E ?_|refine X.F ?_|refine X.G ?_|refine X.H ?_|refine X.I ?_|fail)
      refine ⟨_, ret1 rfl (by rfl), ?_⟩
      have hnb := nm_bd (nm (z - 7) * powN (nm (1 + q)) 10005)
      exact ⟨⟨_, rfl, hnb.1, hnb.2⟩, (hdr.trans hdr2).trans hdr3⟩
theorem l01List_any {sb : Nat} {w : World} (h : Srce sb w) (n : Nat) (hn : n ≤ 1000) : Does Tryz.prog 66 [.pointer (some ⟨sb, 0, none⟩), .int .i64 (n : Nat)] w fun r w' => (∃ xs, OwI 2 w.heap.size w'.heap.size w' r xs ∧ xs.length = n ∧ allN xs = true) ∧ Drew sb w w' := by
  have hlt := h.lt
  refine Does.enter Tryz.func66 Tryz.ntmps66 rfl (by rfl) ?_
  repeat' (first|refine X.O ?_|refine X.A ?_|refine X.B ?_|refine X.C ?_|refine X.D ?_|refine X.E ?_|refine X.F ?_|refine X.G ?_|refine X.H ?_|refine X.I ?_|fail)
  refine WL.step (o_lit (us := []) (by rfl) (by rfl) rfl (by decide) one0 ?_)
  intro v1 w1 hown1 hbl1 hz1 _
  repeat' (first|refine X.O ?_|refine X.A ?_|refine X.B ?_|refine X.C ?_|refine X.D ?_|refine X.E ?_|refine X.F ?_|refine X.G ?_|refine X.H ?_|refine X.I ?_|fail)
  refine WP.loop (fun (s : Nat × Value × List Int) => [(0, .pointer (some ⟨sb, 0, none⟩)), (1, .int .i64 (s.1 : Nat)), (5, s.2.1)])
    (fun s w2 => s.1 + s.2.2.length = n ∧ allN s.2.2 = true ∧ Own w.heap.size 2 w2 s.2.1 (Ints s.2.2) ∧ Drew sb w w2) (fun s => s.1) (n, v1, []) ⟨rfl, rfl, rfl, trivial⟩ ⟨by simp, by unfold allN; rfl, hown1, (Drew.refl h).thenBelow hbl1 hlt⟩ ?_
  rintro ⟨m, vo, xs⟩ w2 ⟨hl, hall, hown2, hdr⟩
  dsimp only at hl hall hown2 ⊢
  have hz2 := hdr.chg.size
  repeat' (first|refine X.O ?_|refine X.A ?_|refine X.B ?_|refine X.C ?_|refine X.D ?_|refine X.E ?_|refine X.F ?_|refine X.G ?_|refine X.H ?_|refine X.I ?_|fail)
  first|refine X.J (fun _ => ?_) (fun _ => ?_)|refine X.L (fun _ => ?_) (fun _ => ?_)|refine X.M (fun _ => ?_) (fun _ => ?_)|refine X.R (fun _ => ?_) (fun _ => ?_)|fail
  · rename_i hgt
    repeat' (first|refine X.O ?_|refine X.A ?_|refine X.B ?_|refine X.C ?_|refine X.D ?_|refine X.E ?_|refine X.F ?_|refine X.G ?_|refine X.H ?_|refine X.I ?_|fail)
    refine WL.call (l01Number_any hdr.src) ?_
    rintro _ w3 ⟨⟨y, rfl, hy0, hy1⟩, hdr3⟩
    have hz3 := hdr3.chg.size
    have hown3 := hown2.keep fun k hk => hdr3.chg.block k (hown2.block k hk).2 (by have := (hown2.block k hk).1; omega)
    refine o_append1 (u := .int .i64 y) (fun _ => by rfl) (by rfl) hown3 rfl (by simp [Ints, maxLen]; omega) (by simp [Ints]; omega) (by omega) ?_
    intro p v4 w4 hown4 hbl4 _ hz4 _
    repeat' (first|refine X.O ?_|refine X.A ?_|refine X.B ?_|refine X.C ?_|refine X.D ?_|refine X.E ?_|refine X.F ?_|refine X.G ?_|refine X.H ?_|refine X.I ?_|fail)
    refine ⟨(m - 1, v4, xs ++ [y]), ⟨rfl, (by first|rfl|exact X.T (by omega)), rfl, trivial⟩, ⟨by simp; omega, allN_of fun z hz => ?_, by dsimp only; rw [Ints_append]; exact hown4, (hdr.trans hdr3).thenBelow hbl4 hlt⟩, by dsimp only; omega⟩
    rcases List.mem_append.1 hz with h1 | h1
    · unfold allN at hall; exact List.all_eq_true.1 hall z h1
    · rw [List.mem_singleton.1 h1]; exact isN_of ⟨hy0, hy1⟩
  · rename_i hle
    have : m = 0 := by omega
    subst this
    repeat' (first|refine X.O ?_|refine X.A ?_|refine X.B ?_|refine X.C ?_|refine X.D ?_|refine X.E ?_|refine X.F ?_|refine X.G ?_|refine X.H ?_|refine X.I ?_|fail)
    refine ⟨_, ret1 rfl (by rfl), ?_⟩
    exact ⟨⟨xs, ⟨hown2, fun k hk => (hown2.block k hk).2, Nat.le_refl _⟩, by omega, hall⟩, hdr⟩
theorem l01From_any {lo hi : Nat} {w : World} {v : Value} {bs : List Int} (h : IU lo hi w v bs) (hn : bs.length ≤ 4096) :
    Does Tryz.prog 25 [v] w fun r w' => r = .pointer (some ⟨w.heap.size, 0, none⟩) ∧ Srce w.heap.size w' ∧ Chg 0 0 w w' := by
  obtain ⟨a, c, hv⟩ := h.shape
  subst hv
  have hhl := h.hi_le
  refine Does.enter Tryz.func25 Tryz.ntmps25 rfl (by rfl) ?_
  repeat' (first|refine X.O ?_|refine X.A ?_|refine X.B ?_|refine X.C ?_|refine X.D ?_|refine X.E ?_|refine X.F ?_|refine X.G ?_|refine X.H ?_|refine X.I ?_|fail)
  refine WL.step (o_convK (by rfl) (wrap_u64 (by omega) (by omega)) ?_)
  refine WL.step (o_arithU (by rfl) (by rfl) (Or.inl ⟨rfl, rfl⟩) ?_)
  refine WL.step (o_build (us := [.slice a bs.length c, .int .u64 (IntKind.u64.wrap (5381 + (bs.length : Int)))]) (cells := [.slice a bs.length c, .int .i64 0, .int .u64 (IntKind.u64.wrap (5381 + (bs.length : Int)))]) (by rfl) (by rfl) ?_)
  refine WL.step (o_box (by rfl) ?_)
  intro w1 hb1 hbl1 hz1
  have hb0 := wrap_u64_bd (5381 + (bs.length : Int))
  repeat' (first|refine X.O ?_|refine X.A ?_|refine X.B ?_|refine X.C ?_|refine X.D ?_|refine X.E ?_|refine X.F ?_|refine X.G ?_|refine X.H ?_|refine X.I ?_|fail)
  refine WP.loop (fun (k : Nat) => [(0, .slice a bs.length c), (3, .pointer (some ⟨w.heap.size, 0, none⟩)), (4, .int .i64 (k : Nat))])
    (fun k w2 => k ≤ bs.length ∧ (∃ hh, 0 ≤ hh ∧ hh ≤ 18446744073709551615 ∧ Blk w2 w.heap.size [.slice a bs.length c, .int .i64 0, .int .u64 hh] 78) ∧ Below w.heap.size w w2 ∧ w2.heap.size = w.heap.size + 1)
    (fun k => bs.length - k) 0 ⟨rfl, rfl, rfl, trivial⟩ ⟨by omega, ⟨_, hb0.1, hb0.2, hb1⟩, hbl1, hz1⟩ ?_
  rintro k w2 ⟨hk, ⟨hh, hh0, hh1, hb2⟩, hbl2, hz2⟩
  have h2 := h.below RU.stable hbl2 hhl
  repeat' (first|refine X.A ?_|refine X.B ?_|refine X.C ?_|refine X.D ?_|refine X.E ?_|refine WL.nil ?_|refine thenN ?_|refine WP.seq ?_|refine WP.block ?_|refine thenR ?_|refine thenX ?_|refine blkN ?_|refine X.F ?_|refine blkR ?_|refine X.G ?_|refine WP.ret ?_|refine WP.exit ?_|refine WP.skip ?_|refine WP.label ?_|refine X.H ?_|refine X.I ?_|fail)
  refine WP.mid (fun l w3 => Agree l [(0, .slice a bs.length c), (3, .pointer (some ⟨w.heap.size, 0, none⟩)), (4, .int .i64 (k : Nat)), (19, .bool (decide (k < bs.length)))] ∧ w3 = w2) ?_ ?_
  · repeat' (first|refine X.O ?_|refine X.A ?_|refine X.B ?_|refine X.C ?_|refine X.D ?_|refine X.E ?_|refine X.F ?_|refine X.G ?_|refine X.H ?_|refine X.I ?_|fail)
    first | refine WL.gsplitD (by rfl) (by rfl) (by rfl) (fun _ => ?_) (fun _ => ?_) | refine WL.gsplitND (by rfl) (by rfl) (by rfl) (fun _ => ?_) (fun _ => ?_) | refine WL.gsplitN (by rfl) (by rfl) (by rfl) (fun _ => ?_) (fun _ => ?_) | refine WL.gsplit (by rfl) (by rfl) (by rfl) (fun _ => ?_) (fun _ => ?_) | fail
    · rename_i hlt
      repeat' (first|refine X.O ?_|refine X.A ?_|refine X.B ?_|refine X.C ?_|refine X.D ?_|refine X.E ?_|refine X.F ?_|refine X.G ?_|refine X.H ?_|refine X.I ?_|fail)
      refine ⟨⟨rfl, rfl, rfl, ?_, trivial⟩, rfl⟩
      show some (Value.bool (decide ((k : Int) < 4096))) = some (Value.bool (decide (k < bs.length)))
      rw [decide_eq_true (by omega), decide_eq_true (by omega)]
    · rename_i hge
      repeat' (first|refine X.O ?_|refine X.A ?_|refine X.B ?_|refine X.C ?_|refine X.D ?_|refine X.E ?_|refine X.F ?_|refine X.G ?_|refine X.H ?_|refine X.I ?_|fail)
      refine ⟨⟨rfl, rfl, rfl, ?_, trivial⟩, rfl⟩
      show some (Value.bool false) = some (Value.bool (decide (k < bs.length)))
      rw [decide_eq_false (by omega)]
  rintro l3 w3 ⟨hag, rfl⟩
  refine WP.frame _ hag ?_
  repeat' (first|refine X.O ?_|refine X.A ?_|refine X.B ?_|refine X.C ?_|refine X.D ?_|refine X.E ?_|refine X.F ?_|refine X.G ?_|refine X.H ?_|refine X.I ?_|fail)
  first|refine X.J (fun _ => ?_) (fun _ => ?_)|refine X.L (fun _ => ?_) (fun _ => ?_)|refine X.M (fun _ => ?_) (fun _ => ?_)|refine X.R (fun _ => ?_) (fun _ => ?_)|fail
  · rename_i hlt
    repeat' (first|refine X.O ?_|refine X.A ?_|refine X.B ?_|refine X.C ?_|refine X.D ?_|refine X.E ?_|refine X.F ?_|refine X.G ?_|refine X.H ?_|refine X.I ?_|fail)
    refine WP.forkedL (fun w' => w'.heap = w3.heap) [14, 15] (.q 0 (.q 1 (.q 2 (.q 3 (.q 4 (.q 5 (.q 6 (.q 7 (.q 8 (.q 9 (.q 10 (.q 11 (.q 12 (.q 13 (.o 14 (.o 15 .nil)))))))))))))))) (by kernel_rfl) mixed ?_
    intro w4 hs4
    have hw4 : w4.heap = w3.heap := hs4.heap
    refine WV.q rfl (q_s (by rfl)) hw4 ?_
    refine WV.q rfl (q_s (by rfl)) hw4 ?_
    refine WV.q rfl (q_nilCheck (by rfl)) hw4 ?_
    refine WV.fld rfl rfl (fun w' h => hb2.keep (by rw [h])) hw4 ?_
    intro p1
    refine WV.q rfl (q_arithU (by rfl) (by rfl) (Or.inr ⟨rfl, rfl⟩)) hw4 ?_
    refine WV.q rfl (q_s (by rfl)) hw4 ?_
    refine WV.q rfl (q_s (by rfl)) hw4 ?_
    refine WV.ixload (j := k) rfl rfl (h2.still RU.stable hs4) (List.getElem?_eq_getElem hlt) (fun w' hw' => same_heap (hw'.trans hw4.symm)) hw4 ?_
    rintro p2 _ ⟨rfl, hu0, hu1⟩
    refine WV.q rfl (q_convK (by rfl) (wrap_u64 hu0 (by omega))) hw4 ?_
    refine WV.q rfl (q_arithU (by rfl) (by rfl) (Or.inl ⟨rfl, rfl⟩)) hw4 ?_
    refine WV.q rfl (q_arithU (by rfl) (by rfl) (Or.inl ⟨rfl, rfl⟩)) hw4 ?_
    refine WV.q rfl (q_nilCheck (by rfl)) hw4 ?_
    refine WV.fldst rfl rfl (hb2.still hs4) ?_
    intro p3 w5 hb5 hbut5
    have hz5 := hbut5.size
    have hz4 := hs4.size
    refine WV.nil ?_
    repeat' (first|refine X.O ?_|refine X.A ?_|refine X.B ?_|refine X.C ?_|refine X.D ?_|refine X.E ?_|refine X.F ?_|refine X.G ?_|refine X.H ?_|refine X.I ?_|fail)
    exact ⟨k + 1, ⟨rfl, rfl, (by first|rfl|exact X.T (by omega)), trivial⟩, ⟨by omega, ⟨_, (wrap_u64_bd _).1, (wrap_u64_bd _).2, hb5⟩, (hbl2.trans (hs4.below _)).trans (hbut5.below (Nat.le_refl _)), by omega⟩, by omega⟩
  · repeat' (first|refine X.O ?_|refine X.A ?_|refine X.B ?_|refine X.C ?_|refine X.D ?_|refine X.E ?_|refine X.F ?_|refine X.G ?_|refine X.H ?_|refine X.I ?_|fail)
    refine ⟨_, ret1 rfl (by rfl), ?_⟩
    exact ⟨rfl, ⟨lo, hi, _, bs, 0, hh, hhl, h2, ⟨Nat.zero_le _, hn⟩, hh0, hh1, hb2⟩, Chg.of_below hbl2⟩
end Go.Proofs
