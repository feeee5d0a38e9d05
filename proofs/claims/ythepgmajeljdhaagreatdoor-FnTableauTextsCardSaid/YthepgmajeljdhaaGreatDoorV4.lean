/- Draws, exactly: what the source gives once its code is used up. -/
import Derived.Test.YthepgmajeljdhaaGreatDoorD1
import Derived.Test.YthepgmajeljdhaaGreatDoorV1
set_option maxRecDepth 8000
namespace Go.Fw
open Go Go.RowKit Go.Rk
theorem hash_nat (k : Nat) : IntKind.u64.wrap (IntKind.u64.wrap ((k : Int) * 6364136223846793005) + 1442695040888963407) = (((k * 6364136223846793005 + 1442695040888963407) % 18446744073709551616 : Nat) : Int) := by
  rw [IntKind.wrap_u64, IntKind.wrap_u64, Int.emod_add_emod]
  rw [Int.natCast_emod, Int.natCast_add, Int.natCast_mul]
  rfl
theorem hash_step {h : Int} (h0 : 0 ≤ h) (_h1 : h ≤ 18446744073709551615) : (IntKind.u64.wrap (IntKind.u64.wrap (h * 6364136223846793005) + 1442695040888963407)).toNat % 144115188075855872 = lcgG (h.toNat % 144115188075855872) := by
  obtain ⟨k, rfl⟩ : ∃ k : Nat, h = (k : Int) := ⟨h.toNat, by omega⟩
  rw [hash_nat, Int.toNat_natCast, Int.toNat_natCast, lcgG_eq, Nat.mod_mod_of_dvd _ (by decide : 144115188075855872 ∣ 18446744073709551616)]
  rw [Nat.add_mod, Nat.mul_mod, ← Nat.mod_mod k, ← Nat.mul_mod, ← Nat.add_mod]
  rw [Nat.mod_mod]
theorem hash_thr {h : Int} (h0 : 0 ≤ h) (h1 : h ≤ 18446744073709551615) : (IntKind.u64.wrap (IntKind.u64.wrap (h * 6364136223846793005) + 1442695040888963407) / 8589934592 % 16777216).tmod 3 = (thr (lcgG (h.toNat % 144115188075855872)) : Nat) := by
  have hs := hash_step h0 h1
  obtain ⟨k, rfl⟩ : ∃ k : Nat, h = (k : Int) := ⟨h.toNat, by omega⟩
  rw [hash_nat] at hs ⊢
  obtain ⟨z, hz⟩ : ∃ z : Nat, (k * 6364136223846793005 + 1442695040888963407) % 18446744073709551616 = z := ⟨_, rfl⟩
  rw [hz] at hs ⊢
  rw [← hs, Int.toNat_natCast]
  unfold thr
  rw [Nat.mod_mod]
  have e : z % 144115188075855872 / 8589934592 = z / 8589934592 % 16777216 := by
    rw [show (144115188075855872 : Nat) = 8589934592 * 16777216 from by decide, Nat.mod_mul_right_div_self]
  rw [e, Int.tmod_eq_emod_of_nonneg (by omega)]
  rfl
section
variable {P : Program} {N : Nat} {Q : Exit → Fr → World → Prop} {S : World → Prop} {l : Fr} {w : World} {ops : Array Oper} {K : Fr → World → Prop}
variable {d : Nat} {ty : TypeId} {pos : String} {af : Array Edge} {g : Option (Nat × Bool)}
theorem o_shr33X {x y : Operand} {t t' : TypeId} {a : Int} (hx : ev l x = some (.int .u64 a)) (hy : ev l y = some (.int .u64 33)) (_h0 : 0 ≤ a) (k : K ((d, .int .u64 (a / 8589934592)) :: l) w)
    (hg : wantedL ops l g = some true := by rfl) (hd : Nat.blt d N = true := by rfl) : OpW P N ops Q ⟨some d, .binOp .shr t x y t', ty, pos, af, g⟩ l w K :=
  o_bin hx hy (v := .int .u64 (a / 8589934592)) (fun w => by
    have e : a.fdiv (2 ^ 33) = a / 8589934592 := Int.fdiv_eq_ediv_of_nonneg _ (by decide)
    simp [binOp, Op.shift, IntKind.bits]
    exact e) (fun w => run_eqGuardInt .u64 _ _ _) k hg hd
theorem o_and24X {x y : Operand} {t t' : TypeId} {a : Int} (hx : ev l x = some (.int .u64 a)) (hy : ev l y = some (.int .u64 16777215)) (h0 : 0 ≤ a) (h1 : a ≤ 18446744073709551615) (k : K ((d, .int .u64 (a % 16777216)) :: l) w)
    (hg : wantedL ops l g = some true := by rfl) (hd : Nat.blt d N = true := by rfl) : OpW P N ops Q ⟨some d, .binOp .and t x y t', ty, pos, af, g⟩ l w K := by
  have hv : (BitVec.ofInt 64 a &&& BitVec.ofInt 64 16777215).toNat = a.toNat % 16777216 := by
    rw [BitVec.toNat_and, BitVec.toNat_ofInt, BitVec.toNat_ofInt]
    have e1 : (a % ((2 ^ 64 : Nat) : Int)).toNat = a.toNat := by
      rw [show ((2 ^ 64 : Nat) : Int) = 18446744073709551616 from by decide]; omega
    have e2 : ((16777215 : Int) % ((2 ^ 64 : Nat) : Int)).toNat = 2 ^ 24 - 1 := by decide
    rw [e1, e2, Nat.and_two_pow_sub_one_eq_mod]
  have hw : IntKind.u64.wrap ((BitVec.ofInt 64 a &&& BitVec.ofInt 64 16777215).toNat : Int) = a % 16777216 := by
    rw [hv, wrap_u64 (by omega) (by omega)]
    rw [Int.natCast_emod, Int.toNat_of_nonneg h0]
    rfl
  refine o_bin hx hy (v := .int .u64 (a % 16777216)) (fun w => ?_) (fun w => run_eqGuardInt .u64 _ _ _) k hg hd
  show (pure (Value.int .u64 (IntKind.u64.wrap ((BitVec.ofInt 64 a &&& BitVec.ofInt 64 16777215).toNat : Int))) : Sem Value).run P w = _
  rw [hw]
  simp
end
/-- The source sb: r bytes of the code are left, and g is what counts of its state. -/
def SG (sb r g : Nat) (w : World) : Prop := ∃ (lo hi : Nat) (cv : Value) (bs : List Int) (n : Nat) (h : Int), hi ≤ sb ∧ IU lo hi w cv bs ∧ (bs.length = n + r ∧ bs.length ≤ 4096) ∧ 0 ≤ h ∧ h ≤ 18446744073709551615 ∧ g = h.toNat % 144115188075855872 ∧ Blk w sb [cv, .int .i64 n, .int .u64 h] 78
theorem SG.lt {sb r g : Nat} {w : World} (h : SG sb r g w) : sb < w.heap.size := by obtain ⟨_, _, _, _, _, _, _, _, _, _, _, _, h⟩ := h; exact h.lt
theorem SG.chg {sb a b r g : Nat} {w w' : World} (h : SG sb r g w) (hc : Chg a b w w') (hd : sb < a ∨ b = 0) : SG sb r g w' := by
  obtain ⟨lo, hi, cv, bs, n, h0, h1, h2, h3, h4, h5, h6, h7⟩ := h
  exact ⟨lo, hi, cv, bs, n, h0, h1, SL.chg RU.stable h2 hc (by omega), h3, h4, h5, h6, h7.chg hc (by omega)⟩
theorem SG.below {sb B r g : Nat} {w w' : World} (h : SG sb r g w) (hb : Below B w w') (hB : sb < B) : SG sb r g w' := by
  obtain ⟨lo, hi, cv, bs, n, h0, h1, h2, h3, h4, h5, h6, h7⟩ := h
  exact ⟨lo, hi, cv, bs, n, h0, h1, h2.below RU.stable hb (by omega), h3, h4, h5, h6, h7.below hb hB⟩
theorem SG.le {sb r g : Nat} {w : World} (h : SG sb r g w) : r ≤ 4096 := by obtain ⟨_, _, _, bs, n, _, _, _, h3, _⟩ := h; omega
theorem Srce.sg {sb : Nat} {w : World} (h : Srce sb w) : ∃ r g, r ≤ 4096 ∧ SG sb r g w := by
  obtain ⟨lo, hi, cv, bs, n, h0, h1, h2, h3, h4, h5, h6⟩ := h
  exact ⟨bs.length - n, _, by omega, lo, hi, cv, bs, n, h0, h1, h2, ⟨by omega, h3.2⟩, h4, h5, rfl, h6⟩
end Go.Fw
namespace Go.Proofs
open Go Go.Fw Go.RowKit Go.Rk
theorem l01Next_exact {sb r g : Nat} {w : World} (h : SG sb r g w) (n : Int) (hn1 : 1 ≤ n) (hn : n ≤ 9223372036854775807) :
    Does Tryz.prog 39 [.pointer (some ⟨sb, 0, none⟩), .int .i64 n] w fun q w' => (∃ v, q = .int .i64 v ∧ 0 ≤ v ∧ v < n ∧ (r = 0 → n = 3 → v = (thr (lcgG g) : Nat))) ∧ SG sb (r - 1) (lcgG g) w' ∧ Chg sb (sb + 1) w w' := by
  obtain ⟨lo, hi, cv, bs, m, h0, hle, hcode, hm, h4, h5, hg, hb⟩ := h
  subst hg
  obtain ⟨ac, cc, hcv⟩ := hcode.shape
  subst hcv
  have hlen := hcode.len
  unfold maxLen at hlen
  refine Does.enter Tryz.func39 Tryz.ntmps39 rfl (by rfl) ?_
  repeat' (first|refine X.O ?_|refine X.A ?_|refine X.B ?_|refine X.C ?_|refine X.D ?_|refine X.E ?_|refine X.F ?_|refine X.G ?_|refine X.H ?_|refine X.I ?_|fail)
  first|refine X.J (fun _ => ?_) (fun _ => ?_)|refine X.L (fun _ => ?_) (fun _ => ?_)|refine X.M (fun _ => ?_) (fun _ => ?_)|refine X.R (fun _ => ?_) (fun _ => ?_)|fail
  · rename_i hlt
    omega
  · rename_i hge
    repeat' (first|refine X.O ?_|refine X.A ?_|refine X.B ?_|refine X.C ?_|refine X.D ?_|refine X.E ?_|refine X.F ?_|refine X.G ?_|refine X.H ?_|refine X.I ?_|fail)
    refine WL.step (o_nilCheck (by rfl) ?_)
    refine WL.fld hb ?_
    intro p1
    refine WL.step (o_arithU (by rfl) (by rfl) (Or.inr ⟨rfl, rfl⟩) ?_)
    refine WL.step (o_arithU (by rfl) (by rfl) (Or.inl ⟨rfl, rfl⟩) ?_)
    refine WL.step (o_nilCheck (by rfl) ?_)
    refine WL.fldst hb ?_
    intro p2 w1 hb1 hbut1
    have hz1 := hbut1.size
    obtain ⟨hh, hhe⟩ : ∃ hh, IntKind.u64.wrap (IntKind.u64.wrap (h0 * 6364136223846793005) + 1442695040888963407) = hh := ⟨_, rfl⟩
    rw [hhe] at hb1
    have hhb : 0 ≤ hh ∧ hh ≤ 18446744073709551615 := by rw [← hhe]; exact wrap_u64_bd _
    have hb1' : Blk w1 sb [.slice ac bs.length cc, .int .i64 (m : Nat), .int .u64 hh] 78 := hb1
    have hcode1 := SL.chg RU.stable hcode hbut1.chg (by omega)
    repeat' (first|refine X.O ?_|refine X.A ?_|refine X.B ?_|refine X.C ?_|refine X.D ?_|refine X.E ?_|refine X.F ?_|refine X.G ?_|refine X.H ?_|refine X.I ?_|fail)
    refine WL.step (o_nilCheck (by rfl) ?_)
    refine WL.fld hb1' ?_
    intro p3
    refine WL.step (o_shr33X (by rfl) (by rfl) hhb.1 ?_)
    refine WL.step (o_and24X (by rfl) (by rfl) (by omega) (by omega) ?_)
    have hX := hash_thr h4 h5
    have hG := hash_step h4 h5
    rw [hhe] at hX hG
    obtain ⟨b2, hb2e⟩ : ∃ b2, hh / 8589934592 % 16777216 = b2 := ⟨_, rfl⟩
    have hb20 : 0 ≤ b2 := by omega
    have hb21 : b2 ≤ 16777215 := by omega
    rw [hb2e] at hX ⊢
    refine WL.step (o_convK (by rfl) (wrap_i64u hb20 (by omega)) ?_)
    repeat' (first|refine X.O ?_|refine X.A ?_|refine X.B ?_|refine X.C ?_|refine X.D ?_|refine X.E ?_|refine X.F ?_|refine X.G ?_|refine X.H ?_|refine X.I ?_|fail)
    refine WP.drawn (fun w' => w'.heap = w1.heap) [(0, true), (1, true), (2, true), (3, true), (4, true), (5, true), (6, true), (7, true), (8, true), (9, true)] (by kernel_rfl) mixed ?_
    intro w2 hs2
    have hw2 : w2.heap = w1.heap := hs2.heap
    repeat' (first|refine X.U rfl ?_|refine X.V rfl ?_|refine X.W rfl ?_|refine X.Y rfl ?_|refine X.Z rfl ?_|refine WS.nil ?_|fail)
    refine WS.q rfl (q_nilCheck (by rfl)) hw2 ?_
    refine WS.fld rfl rfl (fun w' h => hb1'.keep (by rw [h])) hw2 ?_
    intro p4
    repeat' (first|refine X.U rfl ?_|refine X.V rfl ?_|refine X.W rfl ?_|refine X.Y rfl ?_|refine X.Z rfl ?_|refine WS.nil ?_|fail)
    refine WS.q rfl (q_nilCheck (by rfl)) hw2 ?_
    refine WS.fld rfl rfl (fun w' h => hb1'.keep (by rw [h])) hw2 ?_
    intro p5
    repeat' (first|refine X.U rfl ?_|refine X.V rfl ?_|refine X.W rfl ?_|refine X.Y rfl ?_|refine X.Z rfl ?_|refine WS.nil ?_|fail)
    have hb2' := hb1'.still hs2
    have hcode2 := hcode1.still RU.stable hs2
    have hc2 : Chg sb (sb + 1) w w2 := hbut1.chg.trans (Chg.of_still hs2).none
    repeat' (first|refine X.O ?_|refine X.A ?_|refine X.B ?_|refine X.C ?_|refine X.D ?_|refine X.E ?_|refine X.F ?_|refine X.G ?_|refine X.H ?_|refine X.I ?_|fail)
    first|refine X.J (fun _ => ?_) (fun _ => ?_)|refine X.L (fun _ => ?_) (fun _ => ?_)|refine X.M (fun _ => ?_) (fun _ => ?_)|refine X.R (fun _ => ?_) (fun _ => ?_)|fail
    · rename_i hml
      have hlm : m < bs.length := by omega
      repeat' (first|refine X.O ?_|refine X.A ?_|refine X.B ?_|refine X.C ?_|refine X.D ?_|refine X.E ?_|refine X.F ?_|refine X.G ?_|refine X.H ?_|refine X.I ?_|fail)
      refine WP.drawn (fun w' => w'.heap = w2.heap) [(0, true), (1, true), (2, true), (3, true), (4, true), (5, true), (6, true), (7, true), (8, true), (9, true), (10, true), (11, true), (12, true), (13, true)] (by kernel_rfl) mixed ?_
      intro w3 hs3
      have hw3 : w3.heap = w2.heap := hs3.heap
      repeat' (first|refine X.U rfl ?_|refine X.V rfl ?_|refine X.W rfl ?_|refine X.Y rfl ?_|refine X.Z rfl ?_|refine WS.nil ?_|fail)
      refine WS.q rfl (q_nilCheck (by rfl)) hw3 ?_
      refine WS.fld rfl rfl (fun w' h => hb2'.keep (by rw [h])) hw3 ?_
      intro p6
      repeat' (first|refine X.U rfl ?_|refine X.V rfl ?_|refine X.W rfl ?_|refine X.Y rfl ?_|refine X.Z rfl ?_|refine WS.nil ?_|fail)
      refine WS.q rfl (q_nilCheck (by rfl)) hw3 ?_
      refine WS.fld rfl rfl (fun w' h => hb2'.keep (by rw [h])) hw3 ?_
      intro p7
      refine WS.ixload (j := m) rfl rfl (hcode2.still RU.stable hs3) (List.getElem?_eq_getElem hlm) (fun w' hw' => same_heap (hw'.trans hw3.symm)) hw3 ?_
      rintro p8 _ ⟨rfl, hu0, hu1⟩
      refine WS.q rfl (q_convK (by rfl) (wrap_i64u hu0 (by omega))) hw3 ?_
      repeat' (first|refine X.U rfl ?_|refine X.V rfl ?_|refine X.W rfl ?_|refine X.Y rfl ?_|refine X.Z rfl ?_|refine WS.nil ?_|fail)
      have hb3' := hb2'.still hs3
      have hcode3 := hcode2.still RU.stable hs3
      have hc3 : Chg sb (sb + 1) w w3 := hc2.trans (Chg.of_still hs3).none
      repeat' (first|refine X.O ?_|refine X.A ?_|refine X.B ?_|refine X.C ?_|refine X.D ?_|refine X.E ?_|refine X.F ?_|refine X.G ?_|refine X.H ?_|refine X.I ?_|fail)
      refine WL.step (o_nilCheck (by rfl) ?_)
      refine WL.fld hb3' ?_
      intro p9
      repeat' (first|refine X.O ?_|refine X.A ?_|refine X.B ?_|refine X.C ?_|refine X.D ?_|refine X.E ?_|refine X.F ?_|refine X.G ?_|refine X.H ?_|refine X.I ?_|fail)
      refine WL.step (o_nilCheck (by rfl) ?_)
      refine WL.fldst hb3' ?_
      intro p10 w4 hb4 hbut4
      have hz4 := hbut4.size
      have hc4 : Chg sb (sb + 1) w w4 := hc3.trans hbut4.chg
      repeat' (first|refine X.O ?_|refine X.A ?_|refine X.B ?_|refine X.C ?_|refine X.D ?_|refine X.E ?_|refine X.F ?_|refine X.G ?_|refine X.H ?_|refine X.I ?_|fail)
      refine WL.step (o_rem (by rfl) (by rfl) (by omega) ?_)
      repeat' (first|refine X.O ?_|refine X.A ?_|refine X.B ?_|refine X.C ?_|refine X.D ?_|refine X.E ?_|refine X.F ?_|refine X.G ?_|refine X.H ?_|refine X.I ?_|fail)
      refine ⟨_, ret1 rfl (by rfl), ?_⟩
      exact ⟨⟨_, rfl, Int.tmod_nonneg _ (by omega), Int.tmod_lt_of_pos _ (by omega), fun hr => by omega⟩, ⟨lo, hi, _, bs, m + 1, hh, hle, SL.chg RU.stable hcode3 hbut4.chg (by omega), ⟨by omega, hm.2⟩, hhb.1, hhb.2, hG.symm, hb4⟩, hc4⟩
    · rename_i hml
      repeat' (first|refine X.O ?_|refine X.A ?_|refine X.B ?_|refine X.C ?_|refine X.D ?_|refine X.E ?_|refine X.F ?_|refine X.G ?_|refine X.H ?_|refine X.I ?_|fail)
      refine WL.step (o_rem (by rfl) (by rfl) (by omega) ?_)
      repeat' (first|refine X.O ?_|refine X.A ?_|refine X.B ?_|refine X.C ?_|refine X.D ?_|refine X.E ?_|refine X.F ?_|refine X.G ?_|refine X.H ?_|refine X.I ?_|fail)
      refine ⟨_, ret1 rfl (by rfl), ?_⟩
      exact ⟨⟨_, rfl, Int.tmod_nonneg _ (by omega), Int.tmod_lt_of_pos _ (by omega), fun _ h3 => by rw [h3]; exact hX⟩, ⟨lo, hi, _, bs, m, hh, hle, hcode2, ⟨by omega, hm.2⟩, hhb.1, hhb.2, hG.symm, hb2'⟩, hc2⟩
end Go.Proofs
