/- Numbers in decimal, read: l01Value. -/
import Derived.Test.YthepgmajeljdhaaGreatDoorZ5
import Derived.Test.YthepgmajeljdhaaGreatDoorZV
set_option maxRecDepth 8000
namespace Go.Fw
open Go Go.RowKit Go.Rk
section
variable {P : Program} {N : Nat} {Q : Exit → Fr → World → Prop} {S : World → Prop} {l : Fr} {w : World} {ops : Array Oper} {K : Fr → World → Prop}
variable {d : Nat} {ty : TypeId} {pos : String} {af : Array Edge} {g : Option (Nat × Bool)}
theorem o_sub8 {x y : Operand} {t t' : TypeId} {a b : Int} (hx : ev l x = some (.int .u8 a)) (hy : ev l y = some (.int .u8 b)) (h0 : 0 ≤ a - b) (h1 : a - b ≤ 255) (k : K ((d, .int .u8 (a - b)) :: l) w)
    (hg : wantedL ops l g = some true := by rfl) (hd : Nat.blt d N = true := by rfl) : OpW P N ops Q ⟨some d, .binOp .sub t x y t', ty, pos, af, g⟩ l w K :=
  OpW.val (fun fr ha => by simp [execOp, ha.ev hx, ha.ev hy, eqGuard, binOp, Op.intArith, wrap_u8 h0 h1]) k hg hd
end
end Go.Fw
namespace Go.Proofs
open Go Go.Fw Go.RowKit Go.Rk
theorem l01Value_any (s : List UInt8) (w : World) : Does Tryz.prog 99 [St s] w fun r w' => r = .int .i64 (valueL s) ∧ Still w w' := by
  refine Does.enter Tryz.func99 Tryz.ntmps99 rfl (by rfl) ?_
  repeat' (first|refine X.O ?_|refine X.A ?_|refine X.B ?_|refine X.C ?_|refine X.D ?_|refine X.E ?_|refine X.F ?_|refine X.G ?_|refine X.H ?_|refine X.I ?_|fail)
  refine WL.step (o_lenT (by rfl) ?_)
  repeat' (first|refine X.O ?_|refine X.A ?_|refine X.B ?_|refine X.C ?_|refine X.D ?_|refine X.E ?_|refine X.F ?_|refine X.G ?_|refine X.H ?_|refine X.I ?_|fail)
  refine WL.gsplitD (by rfl) (by rfl) (by rfl) (fun hl0 => ?_) (fun hl0 => ?_)
  · have e : valueL s = -1 := by unfold valueL; rw [if_pos (Or.inl (by omega))]
    rw [e]
    repeat' (first|refine X.O ?_|refine X.A ?_|refine X.B ?_|refine X.C ?_|refine X.D ?_|refine X.E ?_|refine X.F ?_|refine X.G ?_|refine X.H ?_|refine X.I ?_|fail)
    refine ⟨_, ret1 rfl (by rfl), ?_⟩
    exact ⟨rfl, Still.refl _⟩
  repeat' (first|refine X.O ?_|refine X.A ?_|refine X.B ?_|refine X.C ?_|refine X.D ?_|refine X.E ?_|refine X.F ?_|refine X.G ?_|refine X.H ?_|refine X.I ?_|fail)
  refine WL.step (o_lenT (by rfl) ?_)
  repeat' (first|refine X.O ?_|refine X.A ?_|refine X.B ?_|refine X.C ?_|refine X.D ?_|refine X.E ?_|refine X.F ?_|refine X.G ?_|refine X.H ?_|refine X.I ?_|fail)
  refine WL.gsplitD (by rfl) (by rfl) (by rfl) (fun hl9 => ?_) (fun hl9 => ?_)
  · have e : valueL s = -1 := by unfold valueL; rw [if_pos (Or.inr (Or.inl (by omega)))]
    rw [e]
    repeat' (first|refine X.O ?_|refine X.A ?_|refine X.B ?_|refine X.C ?_|refine X.D ?_|refine X.E ?_|refine X.F ?_|refine X.G ?_|refine X.H ?_|refine X.I ?_|fail)
    refine ⟨_, ret1 rfl (by rfl), ?_⟩
    exact ⟨rfl, Still.refl _⟩
  repeat' (first|refine X.O ?_|refine X.A ?_|refine X.B ?_|refine X.C ?_|refine X.D ?_|refine X.E ?_|refine X.F ?_|refine X.G ?_|refine X.H ?_|refine X.I ?_|fail)
  refine WL.step (o_lenT (by rfl) ?_)
  repeat' (first|refine X.O ?_|refine X.A ?_|refine X.B ?_|refine X.C ?_|refine X.D ?_|refine X.E ?_|refine X.F ?_|refine X.G ?_|refine X.H ?_|refine X.I ?_|fail)
  have hp : 0 < s.length := by omega
  have h9 : s.length ≤ 9 := by omega
  have main : ¬ (1 < s.length ∧ s[0]? = some 48) → valueL s = optI (digGo 0 s) := fun h => by
    unfold valueL
    rw [if_neg (by rintro (h1 | h1 | h1); omega; omega; exact h h1)]
  have hd0 : s[0]? = some s[0] := List.getElem?_eq_getElem hp
  refine WL.gsplitD (by rfl) (by rfl) (by rfl) (fun h1 => ?_) (fun h1 => ?_)
  · repeat' (first|refine X.O ?_|refine X.A ?_|refine X.B ?_|refine X.C ?_|refine X.D ?_|refine X.E ?_|refine X.F ?_|refine X.G ?_|refine X.H ?_|refine X.I ?_|fail)
    refine WL.step (o_indexT (i := 0) (by rfl) (by rfl) rfl hp ?_)
    repeat' (first|refine X.O ?_|refine X.A ?_|refine X.B ?_|refine X.C ?_|refine X.D ?_|refine X.E ?_|refine X.F ?_|refine X.G ?_|refine X.H ?_|refine X.I ?_|fail)
    first|refine X.J (fun _ => ?_) (fun _ => ?_)|refine X.L (fun _ => ?_) (fun _ => ?_)|refine X.M (fun _ => ?_) (fun _ => ?_)|refine X.R (fun _ => ?_) (fun _ => ?_)|fail
    · rename_i h48
      have hc : s[0] = 48 := UInt8.toNat_inj.1 (by have : (48 : UInt8).toNat = 48 := rfl; omega)
      have e : valueL s = -1 := by unfold valueL; rw [if_pos (Or.inr (Or.inr ⟨by omega, by rw [hd0, hc]⟩))]
      rw [e]
      repeat' (first|refine X.O ?_|refine X.A ?_|refine X.B ?_|refine X.C ?_|refine X.D ?_|refine X.E ?_|refine X.F ?_|refine X.G ?_|refine X.H ?_|refine X.I ?_|fail)
      refine ⟨_, ret1 rfl (by rfl), ?_⟩
      exact ⟨rfl, Still.refl _⟩
    · rename_i h48
      have hv := main (by rintro ⟨_, h⟩; rw [hd0] at h; simp only [Option.some.injEq] at h; rw [h] at h48; exact h48 rfl)
      repeat' (first|refine X.O ?_|refine X.A ?_|refine X.B ?_|refine X.C ?_|refine X.D ?_|refine X.E ?_|refine X.F ?_|refine X.G ?_|refine X.H ?_|refine X.I ?_|fail)
      refine WP.loop (fun (q : Nat × Nat) => [(0, St s), (3, .int .i64 (q.2 : Nat)), (4, .int .i64 (q.1 : Nat))])
        (fun q y => q.1 ≤ s.length ∧ digGo 0 s = digGo q.2 (s.drop q.1) ∧ q.2 < 10 ^ q.1 ∧ Still w y) (fun q => s.length - q.1) (0, 0) ⟨rfl, rfl, rfl, trivial⟩ ⟨Nat.zero_le _, by simp, by simp, Still.refl _⟩ ?_
      rintro ⟨i, n⟩ y ⟨hi, hg, hn, hs⟩
      dsimp only at hi hg hn ⊢
      have hn9 : n < 1000000000 := Nat.lt_of_lt_of_le hn (Nat.le_trans (Nat.pow_le_pow_right (by omega) (by omega : i ≤ 9)) (by decide))
      repeat' (first|refine X.O ?_|refine X.A ?_|refine X.B ?_|refine X.C ?_|refine X.D ?_|refine X.E ?_|refine X.F ?_|refine X.G ?_|refine X.H ?_|refine X.I ?_|fail)
      refine WL.step (o_lenT (by rfl) ?_)
      repeat' (first|refine X.O ?_|refine X.A ?_|refine X.B ?_|refine X.C ?_|refine X.D ?_|refine X.E ?_|refine X.F ?_|refine X.G ?_|refine X.H ?_|refine X.I ?_|fail)
      first|refine X.J (fun _ => ?_) (fun _ => ?_)|refine X.L (fun _ => ?_) (fun _ => ?_)|refine X.M (fun _ => ?_) (fun _ => ?_)|refine X.R (fun _ => ?_) (fun _ => ?_)|fail
      · rename_i hlt
        have hli : i < s.length := by omega
        have hdr : s.drop i = s[i] :: s.drop (i + 1) := List.drop_eq_getElem_cons hli
        rw [hdr, digGo] at hg
        obtain ⟨c, hc⟩ : ∃ c, s[i] = c := ⟨_, rfl⟩
        have hc255 := c.toNat_lt
        repeat' (first|refine X.O ?_|refine X.A ?_|refine X.B ?_|refine X.C ?_|refine X.D ?_|refine X.E ?_|refine X.F ?_|refine X.G ?_|refine X.H ?_|refine X.I ?_|fail)
        refine WL.step (o_indexT (i := i) (by rfl) (by rfl) rfl hli ?_)
        rw [hc] at hg ⊢
        repeat' (first|refine X.O ?_|refine X.A ?_|refine X.B ?_|refine X.C ?_|refine X.D ?_|refine X.E ?_|refine X.F ?_|refine X.G ?_|refine X.H ?_|refine X.I ?_|fail)
        refine WL.gsplitD (by rfl) (by rfl) (by rfl) (fun hlo => ?_) (fun hlo => ?_)
        · rw [if_neg (by unfold isDig; simp; omega)] at hg
          rw [hv, hg]
          repeat' (first|refine X.O ?_|refine X.A ?_|refine X.B ?_|refine X.C ?_|refine X.D ?_|refine X.E ?_|refine X.F ?_|refine X.G ?_|refine X.H ?_|refine X.I ?_|fail)
          refine ⟨_, ret1 rfl (by rfl), ?_⟩
          exact ⟨rfl, hs⟩
        repeat' (first|refine X.O ?_|refine X.A ?_|refine X.B ?_|refine X.C ?_|refine X.D ?_|refine X.E ?_|refine X.F ?_|refine X.G ?_|refine X.H ?_|refine X.I ?_|fail)
        refine WL.step (o_indexT (i := i) (by rfl) (by rfl) rfl hli ?_)
        rw [hc]
        repeat' (first|refine X.O ?_|refine X.A ?_|refine X.B ?_|refine X.C ?_|refine X.D ?_|refine X.E ?_|refine X.F ?_|refine X.G ?_|refine X.H ?_|refine X.I ?_|fail)
        first|refine X.J (fun _ => ?_) (fun _ => ?_)|refine X.L (fun _ => ?_) (fun _ => ?_)|refine X.M (fun _ => ?_) (fun _ => ?_)|refine X.R (fun _ => ?_) (fun _ => ?_)|fail
        · rename_i hhi
          rw [if_neg (by unfold isDig; simp; omega)] at hg
          rw [hv, hg]
          repeat' (first|refine X.O ?_|refine X.A ?_|refine X.B ?_|refine X.C ?_|refine X.D ?_|refine X.E ?_|refine X.F ?_|refine X.G ?_|refine X.H ?_|refine X.I ?_|fail)
          refine ⟨_, ret1 rfl (by rfl), ?_⟩
          exact ⟨rfl, hs⟩
        · rename_i hhi
          rw [if_pos (by unfold isDig; simp; omega)] at hg
          repeat' (first|refine X.O ?_|refine X.A ?_|refine X.B ?_|refine X.C ?_|refine X.D ?_|refine X.E ?_|refine X.F ?_|refine X.G ?_|refine X.H ?_|refine X.I ?_|fail)
          refine WL.step (o_mul (by rfl) (by rfl) (by unfold InI; omega) ?_)
          repeat' (first|refine X.O ?_|refine X.A ?_|refine X.B ?_|refine X.C ?_|refine X.D ?_|refine X.E ?_|refine X.F ?_|refine X.G ?_|refine X.H ?_|refine X.I ?_|fail)
          refine WL.step (o_indexT (i := i) (by rfl) (by rfl) rfl hli ?_)
          rw [hc]
          refine WL.step (o_sub8 (by rfl) (by rfl) (by omega) (by omega) ?_)
          refine WL.step (o_convK (b := ((c.toNat - 48 : Nat) : Int)) (by rfl) (by rw [wrap_i64u (by omega) (by omega)]; omega) ?_)
          repeat' (first|refine X.O ?_|refine X.A ?_|refine X.B ?_|refine X.C ?_|refine X.D ?_|refine X.E ?_|refine X.F ?_|refine X.G ?_|refine X.H ?_|refine X.I ?_|fail)
          exact ⟨(i + 1, n * 10 + (c.toNat - 48)), ⟨rfl, X.T (by dsimp only; omega), X.T (by dsimp only; omega), trivial⟩, ⟨by dsimp only; omega, hg, by dsimp only; rw [Nat.pow_succ]; omega, hs⟩, by dsimp only; omega⟩
      · rename_i hge
        rw [List.drop_eq_nil_of_le (by omega), digGo] at hg
        rw [hv, hg]
        repeat' (first|refine X.O ?_|refine X.A ?_|refine X.B ?_|refine X.C ?_|refine X.D ?_|refine X.E ?_|refine X.F ?_|refine X.G ?_|refine X.H ?_|refine X.I ?_|fail)
        refine ⟨_, ret1 rfl (by rfl), ?_⟩
        exact ⟨rfl, hs⟩
  · have hv := main (by rintro ⟨h, _⟩; omega)
    repeat' (first|refine X.O ?_|refine X.A ?_|refine X.B ?_|refine X.C ?_|refine X.D ?_|refine X.E ?_|refine X.F ?_|refine X.G ?_|refine X.H ?_|refine X.I ?_|fail)
    refine WP.loop (fun (q : Nat × Nat) => [(0, St s), (3, .int .i64 (q.2 : Nat)), (4, .int .i64 (q.1 : Nat))])
      (fun q y => q.1 ≤ s.length ∧ digGo 0 s = digGo q.2 (s.drop q.1) ∧ q.2 < 10 ^ q.1 ∧ Still w y) (fun q => s.length - q.1) (0, 0) ⟨rfl, rfl, rfl, trivial⟩ ⟨Nat.zero_le _, by simp, by simp, Still.refl _⟩ ?_
    rintro ⟨i, n⟩ y ⟨hi, hg, hn, hs⟩
    dsimp only at hi hg hn ⊢
    have hn9 : n < 1000000000 := Nat.lt_of_lt_of_le hn (Nat.le_trans (Nat.pow_le_pow_right (by omega) (by omega : i ≤ 9)) (by decide))
    repeat' (first|refine X.O ?_|refine X.A ?_|refine X.B ?_|refine X.C ?_|refine X.D ?_|refine X.E ?_|refine X.F ?_|refine X.G ?_|refine X.H ?_|refine X.I ?_|fail)
    refine WL.step (o_lenT (by rfl) ?_)
    repeat' (first|refine X.O ?_|refine X.A ?_|refine X.B ?_|refine X.C ?_|refine X.D ?_|refine X.E ?_|refine X.F ?_|refine X.G ?_|refine X.H ?_|refine X.I ?_|fail)
    first|refine X.J (fun _ => ?_) (fun _ => ?_)|refine X.L (fun _ => ?_) (fun _ => ?_)|refine X.M (fun _ => ?_) (fun _ => ?_)|refine X.R (fun _ => ?_) (fun _ => ?_)|fail
    · rename_i hlt
      have hli : i < s.length := by omega
      have hdr : s.drop i = s[i] :: s.drop (i + 1) := List.drop_eq_getElem_cons hli
      rw [hdr, digGo] at hg
      obtain ⟨c, hc⟩ : ∃ c, s[i] = c := ⟨_, rfl⟩
      have hc255 := c.toNat_lt
      repeat' (first|refine X.O ?_|refine X.A ?_|refine X.B ?_|refine X.C ?_|refine X.D ?_|refine X.E ?_|refine X.F ?_|refine X.G ?_|refine X.H ?_|refine X.I ?_|fail)
      refine WL.step (o_indexT (i := i) (by rfl) (by rfl) rfl hli ?_)
      rw [hc] at hg ⊢
      repeat' (first|refine X.O ?_|refine X.A ?_|refine X.B ?_|refine X.C ?_|refine X.D ?_|refine X.E ?_|refine X.F ?_|refine X.G ?_|refine X.H ?_|refine X.I ?_|fail)
      refine WL.gsplitD (by rfl) (by rfl) (by rfl) (fun hlo => ?_) (fun hlo => ?_)
      · rw [if_neg (by unfold isDig; simp; omega)] at hg
        rw [hv, hg]
        repeat' (first|refine X.O ?_|refine X.A ?_|refine X.B ?_|refine X.C ?_|refine X.D ?_|refine X.E ?_|refine X.F ?_|refine X.G ?_|refine X.H ?_|refine X.I ?_|fail)
        refine ⟨_, ret1 rfl (by rfl), ?_⟩
        exact ⟨rfl, hs⟩
      repeat' (first|refine X.O ?_|refine X.A ?_|refine X.B ?_|refine X.C ?_|refine X.D ?_|refine X.E ?_|refine X.F ?_|refine X.G ?_|refine X.H ?_|refine X.I ?_|fail)
      refine WL.step (o_indexT (i := i) (by rfl) (by rfl) rfl hli ?_)
      rw [hc]
      repeat' (first|refine X.O ?_|refine X.A ?_|refine X.B ?_|refine X.C ?_|refine X.D ?_|refine X.E ?_|refine X.F ?_|refine X.G ?_|refine X.H ?_|refine X.I ?_|fail)
      first|refine X.J (fun _ => ?_) (fun _ => ?_)|refine X.L (fun _ => ?_) (fun _ => ?_)|refine X.M (fun _ => ?_) (fun _ => ?_)|refine X.R (fun _ => ?_) (fun _ => ?_)|fail
      · rename_i hhi
        rw [if_neg (by unfold isDig; simp; omega)] at hg
        rw [hv, hg]
        repeat' (first|refine X.O ?_|refine X.A ?_|refine X.B ?_|refine X.C ?_|refine X.D ?_|refine X.E ?_|refine X.F ?_|refine X.G ?_|refine X.H ?_|refine X.I ?_|fail)
        refine ⟨_, ret1 rfl (by rfl), ?_⟩
        exact ⟨rfl, hs⟩
      · rename_i hhi
        rw [if_pos (by unfold isDig; simp; omega)] at hg
        repeat' (first|refine X.O ?_|refine X.A ?_|refine X.B ?_|refine X.C ?_|refine X.D ?_|refine X.E ?_|refine X.F ?_|refine X.G ?_|refine X.H ?_|refine X.I ?_|fail)
        refine WL.step (o_mul (by rfl) (by rfl) (by unfold InI; omega) ?_)
        repeat' (first|refine X.O ?_|refine X.A ?_|refine X.B ?_|refine X.C ?_|refine X.D ?_|refine X.E ?_|refine X.F ?_|refine X.G ?_|refine X.H ?_|refine X.I ?_|fail)
        refine WL.step (o_indexT (i := i) (by rfl) (by rfl) rfl hli ?_)
        rw [hc]
        refine WL.step (o_sub8 (by rfl) (by rfl) (by omega) (by omega) ?_)
        refine WL.step (o_convK (b := ((c.toNat - 48 : Nat) : Int)) (by rfl) (by rw [wrap_i64u (by omega) (by omega)]; omega) ?_)
        repeat' (first|refine X.O ?_|refine X.A ?_|refine X.B ?_|refine X.C ?_|refine X.D ?_|refine X.E ?_|refine X.F ?_|refine X.G ?_|refine X.H ?_|refine X.I ?_|fail)
        exact ⟨(i + 1, n * 10 + (c.toNat - 48)), ⟨rfl, X.T (by dsimp only; omega), X.T (by dsimp only; omega), trivial⟩, ⟨by dsimp only; omega, hg, by dsimp only; rw [Nat.pow_succ]; omega, hs⟩, by dsimp only; omega⟩
    · rename_i hge
      rw [List.drop_eq_nil_of_le (by omega), digGo] at hg
      rw [hv, hg]
      repeat' (first|refine X.O ?_|refine X.A ?_|refine X.B ?_|refine X.C ?_|refine X.D ?_|refine X.E ?_|refine X.F ?_|refine X.G ?_|refine X.H ?_|refine X.I ?_|fail)
      refine ⟨_, ret1 rfl (by rfl), ?_⟩
      exact ⟨rfl, hs⟩
end Go.Proofs
