/- Decimal numbers, read by the program. -/
import Derived.Test.YthepgmajeljdhaaGreatDoorZ3
import Derived.Test.YthepgmajeljdhaaGreatDoorZ7
import Derived.Test.YthepgmajeljdhaaGreatDoorLay4
import Derived.Lib.ParseIntBTie
set_option maxRecDepth 8000
namespace Go.Fw
open Go Go.RowKit Go.Rk
section
variable {P : Program} {N : Nat} {Q : Exit → Fr → World → Prop} {S : World → Prop} {l : Fr} {w : World} {ops : Array Oper} {K : Fr → World → Prop}
variable {d : Nat} {ty : TypeId} {pos : String} {af : Array Edge} {g : Option (Nat × Bool)}
theorem run_nilIs {t : TypeId} {ms : Array (String × TypeId)} (hu : P.underlying t = some (.interface ms)) : (Op.equal t .nilIface .nilIface).run P w = .ok true w := by
  unfold Op.equal
  obtain ⟨k, hk⟩ : ∃ k, Op.maxDepth = k + 1 := ⟨Op.maxDepth - 1, by decide⟩
  rw [hk, Op.equalIn]
  simp only [Sem.run_bind, run_underlying hu, Result.andThen, Sem.run_pure]
theorem run_nilNot {t te : TypeId} {pe : Value} {ms : Array (String × TypeId)} (hu : P.underlying t = some (.interface ms)) : (Op.equal t (.iface te pe) .nilIface).run P w = .ok false w := by
  unfold Op.equal
  obtain ⟨k, hk⟩ : ∃ k, Op.maxDepth = k + 1 := ⟨Op.maxDepth - 1, by decide⟩
  rw [hk, Op.equalIn]
  simp only [Sem.run_bind, run_underlying hu, Result.andThen, Sem.run_pure]
theorem o_nilIs {x : Operand} {t t' : TypeId} {ms : Array (String × TypeId)} (hu : P.underlying t = some (.interface ms)) (hx : ev l x = some .nilIface) (k : K ((d, .bool false) :: l) w)
    (hg : wantedL ops l g = some true := by rfl) (hd : Nat.blt d N = true := by rfl) : OpW P N ops Q ⟨some d, .binOp .neq t x (.const .nilIface) t', ty, pos, af, g⟩ l w K :=
  OpW.val (fun fr ha => by
    have hy : fr.eval (.const .nilIface) = .nilIface := rfl
    simp [execOp, ha.ev hx, hy, binOp, eqGuard, run_nilIs hu]) k hg hd
theorem o_nilNot {x : Operand} {t t' : TypeId} {te : TypeId} {pe : Value} {ms : Array (String × TypeId)} (hu : P.underlying t = some (.interface ms)) (hx : ev l x = some (.iface te pe)) (k : K ((d, .bool true) :: l) w)
    (hg : wantedL ops l g = some true := by rfl) (hd : Nat.blt d N = true := by rfl) : OpW P N ops Q ⟨some d, .binOp .neq t x (.const .nilIface) t', ty, pos, af, g⟩ l w K :=
  OpW.val (fun fr ha => by
    have hy : fr.eval (.const .nilIface) = .nilIface := rfl
    simp [execOp, ha.ev hx, hy, binOp, eqGuard, run_nilNot hu]) k hg hd
theorem o_textEq {x y : Operand} {t t' : TypeId} {a : List UInt8} (hx : ev l x = some (St a)) (hy : ev l y = some (St a)) (k : K ((d, .bool false) :: l) w)
    (hg : wantedL ops l g = some true := by rfl) (hd : Nat.blt d N = true := by rfl) : OpW P N ops Q ⟨some d, .binOp .neq t x y t', ty, pos, af, g⟩ l w K :=
  OpW.val (fun fr ha => by simp [execOp, ha.ev hx, ha.ev hy, binOp, eqGuard, Op.stringOp]) k hg hd
theorem o_textNe {x y : Operand} {t t' : TypeId} {a b : List UInt8} (hx : ev l x = some (St a)) (hy : ev l y = some (St b)) (hne : a ≠ b) (k : K ((d, .bool true) :: l) w)
    (hg : wantedL ops l g = some true := by rfl) (hd : Nat.blt d N = true := by rfl) : OpW P N ops Q ⟨some d, .binOp .neq t x y t', ty, pos, af, g⟩ l w K :=
  OpW.val (fun fr ha => by simp [execOp, ha.ev hx, ha.ev hy, binOp, eqGuard, Op.stringOp, hne]) k hg hd
theorem below_bytes (w : World) (e : TypeId) (s : ByteArray) : Below w.heap.size w (Lib.bytesWorld w e s) :=
  ⟨rfl, rfl, rfl, by rw [Lib.bytesWorld_size]; omega, fun k hk => Lib.bytesWorld_at_old w e s k hk⟩
end
end Go.Fw
namespace Go.Proofs
open Go Go.Fw Go.RowKit Go.Rk
/-- The two errors of strconv stand in their variables. -/
def EV (w : World) : Prop := (∃ t p, w.cell? ⟨4, 0, none⟩ = some (.iface t p)) ∧ ∃ t p, w.cell? ⟨5, 0, none⟩ = some (.iface t p)
theorem cell_below {w w' : World} {b : Nat} {v : Value} (h : w.cell? ⟨b, 0, none⟩ = some v) (hb : Below w.heap.size w w') : w'.cell? ⟨b, 0, none⟩ = some v := by
  have hlt : b < w.heap.size := Nat.lt_of_not_le fun hle => by
    unfold World.cell? at h
    rw [Array.getElem?_eq_none hle] at h
    cases h
  rw [World.cell?_of_block (hb.block b hlt)]
  exact h
theorem EV.below {w w' : World} (h : EV w) (hb : Below w.heap.size w w') : EV w' := by
  obtain ⟨⟨t, p, h1⟩, t2, p2, h2⟩ := h
  exact ⟨⟨t, p, cell_below h1 hb⟩, t2, p2, cell_below h2 hb⟩
/-- What ParseInt gives: a number and no error, or an error. -/
theorem ParseInt_any (s : List UInt8) (hs : s.length ≤ 4000000000) {w : World} (hE : EV w) : Does Tryz.prog 119 [St s, .int .i64 10, .int .i64 64] w fun r w' =>
    ((∃ v, Lib.parseIntB 64 s = .ok v ∧ r = .tuple #[.int .i64 v, .nilIface]) ∨ ((∀ v, Lib.parseIntB 64 s ≠ .ok v) ∧ ∃ v t p, r = .tuple #[.int .i64 v, .iface t p])) ∧ Below w.heap.size w w' := by
  obtain ⟨⟨t1, p1, h1⟩, t2, p2, h2⟩ := hE
  have hsz : (⟨s.toArray⟩ : ByteArray).size = s.length := by simp [ByteArray.size]
  cases h : Lib.parseIntB 64 s
  · rename_i v
    refine Calls.mono (Tryz.strconv_ParseInt_10_at64_ok ⟨s.toArray⟩ (by rw [hsz]; omega) v h w) ?_
    rintro e w' ⟨rfl, hw⟩
    refine ⟨_, rfl, Or.inl ⟨v, rfl, rfl⟩, ?_⟩
    rcases hw with rfl | ⟨t, rfl⟩
    · exact Below.refl _ _
    · exact below_bytes _ _ _
  · refine Calls.mono (Any.strconv_ParseInt_10_at64_syntax Tryz.laysC174 ⟨s.toArray⟩ (by rw [hsz]; omega) h _ w h1 (Or.inr ⟨_, _, rfl⟩)) ?_
    rintro e w' ⟨N, rfl, _, _, hb⟩
    exact ⟨_, rfl, Or.inr ⟨fun v hv => (by cases hv), _, _, _, rfl⟩, hb⟩
  · refine Calls.mono (Tryz.strconv_ParseInt_10_at64_range ⟨s.toArray⟩ (by rw [hsz]; omega) h _ w h2 (Or.inr ⟨_, _, rfl⟩)) ?_
    rintro e w' ⟨N, rfl, _, _, hb⟩
    exact ⟨_, rfl, Or.inr ⟨fun v hv => (by cases hv), _, _, _, rfl⟩, hb⟩
theorem readDecimal_any (s : List UInt8) (hs : s.length ≤ 4000000000) {w : World} (hT : T10 w) (hE : EV w) : Does Tryz.prog 92 [St s] w fun r w' => r = .tuple #[.int .i64 (if 0 ≤ valueL s then valueL s else 0), .bool (decide (0 ≤ valueL s))] ∧ Below w.heap.size w w' := by
  refine Does.enter Tryz.func92 Tryz.ntmps92 rfl (by rfl) ?_
  repeat' (first|refine X.O ?_|refine X.A ?_|refine X.B ?_|refine X.C ?_|refine X.D ?_|refine X.E ?_|refine X.F ?_|refine X.G ?_|refine X.H ?_|refine X.I ?_|fail)
  refine WL.call (ParseInt_any s hs hE) ?_
  rintro r1 w1 ⟨hr, hb1⟩
  have hz1 := hb1.size
  rcases hr with ⟨v, hv, rfl⟩ | ⟨hno, v, t, p, rfl⟩
  · repeat' (first|refine X.O ?_|refine X.A ?_|refine X.B ?_|refine X.C ?_|refine X.D ?_|refine X.E ?_|refine X.F ?_|refine X.G ?_|refine X.H ?_|refine X.I ?_|fail)
    refine WL.step (o_nilIs Tryz.underlying100 (by rfl) ?_)
    have key : 0 ≤ valueL s → v = valueL s ∧ s.length ≤ 9 ∧ Lib.itoa v = s := fun h => by
      obtain ⟨n, h1, h2, h3, h4⟩ := value_of h
      have hp := parse_dec (n := n) (by omega)
      rw [← h2, hv] at hp
      simp only [Lib.NumEnd.ok.injEq] at hp
      exact ⟨by rw [h1]; exact hp, h3, by rw [hp, Lib.itoa_nonneg, ← h2]⟩
    have conv : 0 ≤ v → s.length ≤ 9 → Lib.itoa v = s → valueL s = v := fun h1 h2 h3 => by
      obtain ⟨n, rfl⟩ : ∃ n : Nat, v = (n : Int) := ⟨v.toNat, by omega⟩
      rw [Lib.itoa_nonneg] at h3
      rw [← h3]
      exact value_dec (by rw [h3]; exact h2)
    have fail : ¬ 0 ≤ valueL s → (if 0 ≤ valueL s then valueL s else 0) = 0 ∧ decide (0 ≤ valueL s) = false := fun h => ⟨if_neg h, decide_eq_false h⟩
    have hbd := Lib.parseIntB_bounds hv
    repeat' (first|refine X.O ?_|refine X.A ?_|refine X.B ?_|refine X.C ?_|refine X.D ?_|refine X.E ?_|refine X.F ?_|refine X.G ?_|refine X.H ?_|refine X.I ?_|fail)
    refine WL.gsplitD (by rfl) (by rfl) (by rfl) (fun g1 => ?_) (fun g1 => ?_)
    · obtain ⟨e1, e2⟩ := fail (fun h => by have := key h; omega)
      rw [e1, e2]
      repeat' (first|refine X.O ?_|refine X.A ?_|refine X.B ?_|refine X.C ?_|refine X.D ?_|refine X.E ?_|refine X.F ?_|refine X.G ?_|refine X.H ?_|refine X.I ?_|fail)
      refine ⟨_, ret2 rfl (by rfl) (by rfl), ?_⟩
      exact ⟨rfl, hb1⟩
    repeat' (first|refine X.O ?_|refine X.A ?_|refine X.B ?_|refine X.C ?_|refine X.D ?_|refine X.E ?_|refine X.F ?_|refine X.G ?_|refine X.H ?_|refine X.I ?_|fail)
    refine WL.step (o_lenT (by rfl) ?_)
    repeat' (first|refine X.O ?_|refine X.A ?_|refine X.B ?_|refine X.C ?_|refine X.D ?_|refine X.E ?_|refine X.F ?_|refine X.G ?_|refine X.H ?_|refine X.I ?_|fail)
    refine WL.gsplitD (by rfl) (by rfl) (by rfl) (fun g2 => ?_) (fun g2 => ?_)
    · obtain ⟨e1, e2⟩ := fail (fun h => by have := key h; omega)
      rw [e1, e2]
      repeat' (first|refine X.O ?_|refine X.A ?_|refine X.B ?_|refine X.C ?_|refine X.D ?_|refine X.E ?_|refine X.F ?_|refine X.G ?_|refine X.H ?_|refine X.I ?_|fail)
      refine ⟨_, ret2 rfl (by rfl) (by rfl), ?_⟩
      exact ⟨rfl, hb1⟩
    repeat' (first|refine X.O ?_|refine X.A ?_|refine X.B ?_|refine X.C ?_|refine X.D ?_|refine X.E ?_|refine X.F ?_|refine X.G ?_|refine X.H ?_|refine X.I ?_|fail)
    refine WL.call (FormatInt_any v (by have : (2 : Nat) ^ (64 - 1) = 9223372036854775808 := by decide
                                        omega) (by have : (2 : Nat) ^ (64 - 1) = 9223372036854775808 := by decide
                                                   omega) (hT.below hb1)) ?_
    rintro _ w2 ⟨rfl, hb2⟩
    have hb02 := hb1.trans (Below.mono hb2 hz1)
    repeat' (first|refine X.O ?_|refine X.A ?_|refine X.B ?_|refine X.C ?_|refine X.D ?_|refine X.E ?_|refine X.F ?_|refine X.G ?_|refine X.H ?_|refine X.I ?_|fail)
    by_cases he : Lib.itoa v = s
    · rw [he]
      have hval := conv (by omega) (by omega) he
      rw [if_pos (show 0 ≤ valueL s by omega), show decide (0 ≤ valueL s) = true from decide_eq_true (by omega), hval]
      refine WL.step (o_textEq (by rfl) (by rfl) ?_)
      repeat' (first|refine X.O ?_|refine X.A ?_|refine X.B ?_|refine X.C ?_|refine X.D ?_|refine X.E ?_|refine X.F ?_|refine X.G ?_|refine X.H ?_|refine X.I ?_|fail)
      refine ⟨_, ret2 rfl (by rfl) (by rfl), ?_⟩
      exact ⟨rfl, hb02⟩
    · obtain ⟨e1, e2⟩ := fail (fun h => he (key h).2.2)
      rw [e1, e2]
      refine WL.step (o_textNe (by rfl) (by rfl) he ?_)
      repeat' (first|refine X.O ?_|refine X.A ?_|refine X.B ?_|refine X.C ?_|refine X.D ?_|refine X.E ?_|refine X.F ?_|refine X.G ?_|refine X.H ?_|refine X.I ?_|fail)
      refine ⟨_, ret2 rfl (by rfl) (by rfl), ?_⟩
      exact ⟨rfl, hb02⟩
  · have hval : ¬ 0 ≤ valueL s := fun h => by
      obtain ⟨n, _, h2, _, h4⟩ := value_of h
      exact hno n (by rw [h2]; exact parse_dec (by omega))
    rw [if_neg hval, show decide (0 ≤ valueL s) = false from decide_eq_false hval]
    repeat' (first|refine X.O ?_|refine X.A ?_|refine X.B ?_|refine X.C ?_|refine X.D ?_|refine X.E ?_|refine X.F ?_|refine X.G ?_|refine X.H ?_|refine X.I ?_|fail)
    refine WL.step (o_nilNot Tryz.underlying100 (by rfl) ?_)
    repeat' (first|refine X.O ?_|refine X.A ?_|refine X.B ?_|refine X.C ?_|refine X.D ?_|refine X.E ?_|refine X.F ?_|refine X.G ?_|refine X.H ?_|refine X.I ?_|fail)
    refine ⟨_, ret2 rfl (by rfl) (by rfl), ?_⟩
    exact ⟨rfl, hb1⟩
end Go.Proofs
