/- Strings in walks: joining two, a string out of one byte; l01Dec, l01Common, divisor. -/
import Derived.Test.YthepgmajeljdhaaGreatDoorHB
import Derived.Test.YthepgmajeljdhaaGreatDoorD1
import Derived.Test.YthepgmajeljdhaaGreatDoorZ0
import Derived.Laws.BytesString
import Derived.Laws.Small
set_option maxRecDepth 8000
namespace Go.Fw
open Go Go.RowKit Go.Rk
section
variable {P : Program} {N : Nat} {Q : Exit → Fr → World → Prop} {S : World → Prop} {l : Fr} {w : World} {ops : Array Oper} {K : Fr → World → Prop}
variable {d : Nat} {ty : TypeId} {pos : String} {af : Array Edge} {g : Option (Nat × Bool)}
theorem St_add (a b : List UInt8) : (⟨a.toArray⟩ ++ ⟨b.toArray⟩ : ByteArray) = ⟨(a ++ b).toArray⟩ := by
  apply ByteArray.ext
  simp [ByteArray.data_append]
theorem run_cat {t : TypeId} {a b : List UInt8} (hs : a.length + b.length ≤ 9223372036854775807) : (binOp .add t (St a) (St b)).run P w = .ok (St (a ++ b)) w := by
  have h : ¬ (((ByteArray.size ⟨a.toArray⟩ + ByteArray.size ⟨b.toArray⟩ : Nat) : Int) > IntKind.i64.max) := by
    simp only [ByteArray.size, List.size_toArray, IntKind.max_i64]
    omega
  simp only [binOp, Op.stringOp]
  rw [if_neg h, St_add]
  rfl
theorem o_cat {x y : Operand} {t t' : TypeId} {a b : List UInt8} (hx : ev l x = some (St a)) (hy : ev l y = some (St b)) (hs : a.length + b.length ≤ 9223372036854775807) (k : K ((d, St (a ++ b)) :: l) w)
    (hg : wantedL ops l g = some true := by rfl) (hd : Nat.blt d N = true := by rfl) : OpW P N ops Q ⟨some d, .binOp .add t x y t', ty, pos, af, g⟩ l w K :=
  OpW.val (fun fr ha => by simp only [execOp, ha.ev hx, ha.ev hy, eqGuard, Sem.run_bind, run_cat hs]; simp [Sem.run_bind, Result.andThen, run_cat hs]) k hg hd
theorem q_cat {x y : Operand} {t t' : TypeId} {a b : List UInt8} (hx : ev l x = some (St a)) (hy : ev l y = some (St b)) (hs : a.length + b.length ≤ 9223372036854775807)
    (hg : wantedL ops l g = some true := by rfl) (hd : Nat.blt d N = true := by rfl) : QW P N ops S ⟨some d, .binOp .add t x y t', ty, pos, af, g⟩ l d (St (a ++ b)) :=
  QW.mk (fun fr ha w _ => by simp only [execOp, ha.ev hx, ha.ev hy, eqGuard, Sem.run_bind, run_cat hs]; simp [Sem.run_bind, Result.andThen, run_cat hs]) hg hd
theorem o_max {t : TypeId} {ts : Array TypeId} {x y : Operand} {a b : Int} (hx : ev l x = some (.int .i64 a)) (hy : ev l y = some (.int .i64 b)) (k : K ((d, .int .i64 (if b > a then b else a)) :: l) w)
    (hg : wantedL ops l g = some true := by rfl) (hd : Nat.blt d N = true := by rfl) : OpW P N ops Q ⟨some d, .call { callee := .builtin .max, args := #[x, y], argTypes := ts }, t, pos, af, g⟩ l w K :=
  OpW.val (fun fr ha => by simp [execOp, resolve, invoke, builtin, ha.ev hx, ha.ev hy, run_max_int2]) k hg hd
theorem run_str1 {t e s : TypeId} {z : Value} {bytes : Nat} [h : SliceTy P t e z bytes] [h1 : IntTy P e .u8] [h2 : StrTy P s] {g c : Nat} {b : Int} (hc : w.cell? ⟨g, 0, none⟩ = some (.int .u8 b)) :
    (convert t s (.slice (some ⟨g, 0, none⟩) 1 c)).run P w = .ok (St [UInt8.ofNat b.toNat]) w := by
  rw [run_convert_bytes_string w t s e _ _ _ h.und h1.und h2.und, run_bytesToString w ⟨g, 0, none⟩ 1 c [b] (by
    have e : (⟨g, 0, none⟩ : Addr).add 0 = ⟨g, 0, none⟩ := by unfold Addr.add; split <;> simp_all
    simp [loadCells, loadCellsFrom, e, Sem.run_bind, run_load, hc, Result.andThen, Sem.run_pure])]
  rfl
theorem o_str1 {t e s : TypeId} {z : Value} {bytes : Nat} [h : SliceTy P t e z bytes] [h1 : IntTy P e .u8] [h2 : StrTy P s] {lo : Nat} {e' : TypeId} {x : Operand} {v : Value} {b : Int} (hx : ev l x = some v) (ho : Own lo e' w v [.int .u8 b]) (k : K ((d, St [UInt8.ofNat b.toNat]) :: l) w)
    (hg : wantedL ops l g = some true := by rfl) (hd : Nat.blt d N = true := by rfl) : OpW P N ops Q ⟨some d, .convert t s x, ty, pos, af, g⟩ l w K := by
  obtain ⟨g', c, rfl, _, _, hc, _, _⟩ := ho.cell (i := 0) (u := .int .u8 b) rfl
  exact OpW.val (fun fr ha => by simp only [execOp, ha.ev hx, Sem.run_bind]; simp [Result.andThen, run_str1 hc, Sem.run_bind]) k hg hd
theorem q_quo {x y : Operand} {t t' : TypeId} {a b : Int} (hx : ev l x = some (.int .i64 a)) (hy : ev l y = some (.int .i64 b)) (hb : b ≠ 0) (hi : InI (a.tdiv b))
    (hg : wantedL ops l g = some true := by rfl) (hd : Nat.blt d N = true := by rfl) : QW P N ops S ⟨some d, .binOp .quo t x y t', ty, pos, af, g⟩ l d (.int .i64 (a.tdiv b)) :=
  QW.mk (fun fr ha _ _ => by simp [execOp, ha.ev hx, ha.ev hy, eqGuard, binOp, Op.intDiv, hb, wrap_in hi]) hg hd
theorem q_rem {x y : Operand} {t t' : TypeId} {a b : Int} (hx : ev l x = some (.int .i64 a)) (hy : ev l y = some (.int .i64 b)) (hb : b ≠ 0)
    (hg : wantedL ops l g = some true := by rfl) (hd : Nat.blt d N = true := by rfl) : QW P N ops S ⟨some d, .binOp .rem t x y t', ty, pos, af, g⟩ l d (.int .i64 (a.tmod b)) :=
  QW.mk (fun fr ha _ _ => by simp [execOp, ha.ev hx, ha.ev hy, eqGuard, binOp, Op.intDiv, hb]) hg hd
theorem wrap_u8 {z : Int} (h0 : 0 ≤ z) (h1 : z ≤ 255) : IntKind.u8.wrap z = z := by rw [IntKind.wrap_u8]; omega
end
end Go.Fw
namespace Go.Proofs
open Go Go.Fw Go.RowKit Go.Rk
theorem l01Dec_any : ∀ (n : Nat), n ≤ 1000000000000000000 → ∀ (w : World), Does Tryz.prog 40 [.int .i64 (n : Nat)] w fun r w' => r = St (Lib.decDigits n) ∧ Below w.heap.size w w' := by
  intro n
  induction n using Nat.strongRecOn with
  | _ n ih =>
  intro hn w
  refine Does.enter Tryz.func40 Tryz.ntmps40 rfl (by rfl) ?_
  repeat' (first|refine X.O ?_|refine X.A ?_|refine X.B ?_|refine X.C ?_|refine X.D ?_|refine X.E ?_|refine X.F ?_|refine X.G ?_|refine X.H ?_|refine X.I ?_|fail)
  first|refine X.J (fun _ => ?_) (fun _ => ?_)|refine X.L (fun _ => ?_) (fun _ => ?_)|refine X.M (fun _ => ?_) (fun _ => ?_)|refine X.R (fun _ => ?_) (fun _ => ?_)|fail
  · rename_i hlt
    have hlt' : n < 10 := by omega
    repeat' (first|refine X.O ?_|refine X.A ?_|refine X.B ?_|refine X.C ?_|refine X.D ?_|refine X.E ?_|refine X.F ?_|refine X.G ?_|refine X.H ?_|refine X.I ?_|fail)
    refine WL.step (o_convK (b := ((48 + n : Nat) : Int)) (by rfl) (by rw [wrap_u8 (by omega) (by omega)]; omega) ?_)
    refine WL.step (o_lit (us := [.int .u8 ((48 + n : Nat) : Int)]) (by rfl) (by rfl) rfl (by decide) (one1 rfl) ?_)
    intro v1 w1 hown1 hbl1 hz1 _
    refine WL.step (o_str1 (by rfl) hown1 ?_)
    repeat' (first|refine X.O ?_|refine X.A ?_|refine X.B ?_|refine X.C ?_|refine X.D ?_|refine X.E ?_|refine X.F ?_|refine X.G ?_|refine X.H ?_|refine X.I ?_|fail)
    refine ⟨_, ret1 rfl (by rfl), ?_⟩
    refine ⟨?_, hbl1⟩
    rw [Lib.decDigits_one hlt']
    rfl
  · rename_i hge
    have hge' : ¬ n < 10 := by omega
    have e1 : ((n : Nat) : Int).tdiv 10 = ((n / 10 : Nat) : Int) := by rw [Int.tdiv_eq_ediv_of_nonneg (by omega)]; omega
    have e2 : ((n : Nat) : Int).tmod 10 = ((n % 10 : Nat) : Int) := by rw [Int.tmod_eq_emod_of_nonneg (by omega)]; omega
    have hdg : Lib.decDigits n = Lib.decDigits (n / 10) ++ [UInt8.ofNat (48 + n % 10)] := by rw [Lib.decDigits, dif_neg hge']
    have hlen : (Lib.decDigits (n / 10)).length ≤ 21 := by
      have := Lib.itoa_length_le ((n / 10 : Nat) : Int) (by omega) (by omega)
      rwa [Lib.itoa_nonneg] at this
    repeat' (first|refine X.O ?_|refine X.A ?_|refine X.B ?_|refine X.C ?_|refine X.D ?_|refine X.E ?_|refine X.F ?_|refine X.G ?_|refine X.H ?_|refine X.I ?_|fail)
    refine WP.forked (fun w' => Below w.heap.size w w') (.q 0 (.q 1 (.q 3 (.q 4 (.q 5 (.q 6 (.two 2 (.o 7 (.o 8 (.q 9 (.q 10 .nil)))) 7 (.two 2 (.o 8 (.q 9 (.q 10 .nil))) 8 (.o 2 (.q 9 (.q 10 .nil))))))))))) (by kernel_rfl) mixed ?_
    intro w0 hw0
    have hS0 : Below w.heap.size w w0 := hw0.below _
    have hz0 := hw0.size
    refine WT.q rfl (q_s (by rfl)) hS0 ?_
    refine WT.q rfl (q_quo (by rfl) (by rfl) (by omega) (by rw [e1]; unfold InI; omega)) hS0 ?_
    refine WT.q rfl (q_s (by rfl)) hS0 ?_
    refine WT.q rfl (q_rem (by rfl) (by rfl) (by omega)) hS0 ?_
    rw [e1, e2]
    refine WT.q rfl (q_add (a := 48) (by rfl) (by rfl) (by unfold InI; omega)) hS0 ?_
    refine WT.q rfl (q_convK (b := ((48 + n % 10 : Nat) : Int)) (by rfl) (by rw [wrap_u8 (by omega) (by omega)]; omega)) hS0 ?_
    refine WT.two rfl rfl (o_call (ih (n / 10) (by omega) (by omega) w0) ?_) (o_lit (us := [.int .u8 ((48 + n % 10 : Nat) : Int)]) (by rfl) (by rfl) rfl (by decide) (one1 rfl) ?_)
    · rintro _ w1 ⟨rfl, hbl1⟩
      have hz1 := hbl1.size
      have hS1 : Below w.heap.size w w1 := hS0.trans (Below.mono hbl1 (by omega))
      refine ⟨hS1, ?_⟩
      refine WT.o rfl (o_lit (us := [.int .u8 ((48 + n % 10 : Nat) : Int)]) (by rfl) (by rfl) rfl (by decide) (one1 rfl) ?_)
      intro v2 w2 hown2 hbl2 hz2 _
      have hS2 : Below w.heap.size w w2 := hS1.trans (Below.mono hbl2 (by omega))
      refine ⟨hS2, ?_⟩
      refine WT.o rfl (o_str1 (by rfl) hown2 ?_)
      refine ⟨hS2, ?_⟩
      refine WT.q rfl (q_cat (by rfl) (by rfl) (by simp; omega)) hS2 ?_
      refine WT.q rfl (q_s (by rfl)) hS2 ?_
      refine WT.nil (thenN ?_)
      repeat' (first|refine X.O ?_|refine X.A ?_|refine X.B ?_|refine X.C ?_|refine X.D ?_|refine X.E ?_|refine X.F ?_|refine X.G ?_|refine X.H ?_|refine X.I ?_|fail)
      refine ⟨_, ret1 rfl (by rfl), ?_⟩
      exact ⟨by rw [hdg]; rfl, hS2⟩
    · intro v1 w1 hown1 hbl1 hz1 _
      have hS1 : Below w.heap.size w w1 := hS0.trans (Below.mono hbl1 (by omega))
      refine ⟨hS1, ?_⟩
      refine WT.two rfl rfl (o_call (ih (n / 10) (by omega) (by omega) w1) ?_) (o_str1 (by rfl) hown1 ?_)
      · rintro _ w2 ⟨rfl, hbl2⟩
        have hz2 := hbl2.size
        have hS2 : Below w.heap.size w w2 := hS1.trans (Below.mono hbl2 (by omega))
        refine ⟨hS2, ?_⟩
        refine WT.o rfl (o_str1 (by rfl) (hown1.below hbl2 (Nat.le_refl _)) ?_)
        refine ⟨hS2, ?_⟩
        refine WT.q rfl (q_cat (by rfl) (by rfl) (by simp; omega)) hS2 ?_
        refine WT.q rfl (q_s (by rfl)) hS2 ?_
        refine WT.nil (thenN ?_)
        repeat' (first|refine X.O ?_|refine X.A ?_|refine X.B ?_|refine X.C ?_|refine X.D ?_|refine X.E ?_|refine X.F ?_|refine X.G ?_|refine X.H ?_|refine X.I ?_|fail)
        refine ⟨_, ret1 rfl (by rfl), ?_⟩
        exact ⟨by rw [hdg]; rfl, hS2⟩
      · refine ⟨hS1, ?_⟩
        refine WT.o rfl (o_call (ih (n / 10) (by omega) (by omega) w1) ?_)
        rintro _ w2 ⟨rfl, hbl2⟩
        have hz2 := hbl2.size
        have hS2 : Below w.heap.size w w2 := hS1.trans (Below.mono hbl2 (by omega))
        refine ⟨hS2, ?_⟩
        refine WT.q rfl (q_cat (by rfl) (by rfl) (by simp; omega)) hS2 ?_
        refine WT.q rfl (q_s (by rfl)) hS2 ?_
        refine WT.nil (thenN ?_)
        repeat' (first|refine X.O ?_|refine X.A ?_|refine X.B ?_|refine X.C ?_|refine X.D ?_|refine X.E ?_|refine X.F ?_|refine X.G ?_|refine X.H ?_|refine X.I ?_|fail)
        refine ⟨_, ret1 rfl (by rfl), ?_⟩
        exact ⟨by rw [hdg]; rfl, hS2⟩
theorem l01Common_any (p q : Int) (hp : InI p) (hq : 1 ≤ q) (hq2 : q ≤ 1000000) (w : World) : Does Tryz.prog 113 [.int .i64 p, .int .i64 q] w fun r w' => (∃ c, r = .int .i64 c ∧ (c > 1 ↔ p.natAbs.gcd q.natAbs ≠ 1)) ∧ Still w w' := by
  unfold InI at hp
  refine Does.enter Tryz.func113 Tryz.ntmps113 rfl (by rfl) ?_
  repeat' (first|refine X.O ?_|refine X.A ?_|refine X.B ?_|refine X.C ?_|refine X.D ?_|refine X.E ?_|refine X.F ?_|refine X.G ?_|refine X.H ?_|refine X.I ?_|fail)
  refine WP.loop (fun (s : Int × Int) => [(0, .int .i64 p), (1, .int .i64 q), (5, .int .i64 s.1), (6, .int .i64 s.2)])
    (fun s y => 1 ≤ s.2 ∧ s.2 ≤ q + 1 ∧ 1 ≤ s.1 ∧ (s.1 > 1 ↔ ∃ e : Int, 2 ≤ e ∧ e < s.2 ∧ e ∣ p ∧ e ∣ q) ∧ Still w y) (fun s => (q + 1 - s.2).toNat) (1, 1) ⟨rfl, rfl, rfl, rfl, trivial⟩ ⟨by omega, by omega, by omega, ⟨fun h => by omega, fun ⟨e, h1, h2, _⟩ => by omega⟩, Still.refl _⟩ ?_
  rintro ⟨b, dv⟩ y ⟨h1, h2, h3, h4, hs⟩
  dsimp only at h1 h2 h3 h4 ⊢
  repeat' (first|refine X.O ?_|refine X.A ?_|refine X.B ?_|refine X.C ?_|refine X.D ?_|refine X.E ?_|refine X.F ?_|refine X.G ?_|refine X.H ?_|refine X.I ?_|fail)
  first|refine X.J (fun _ => ?_) (fun _ => ?_)|refine X.L (fun _ => ?_) (fun _ => ?_)|refine X.M (fun _ => ?_) (fun _ => ?_)|refine X.R (fun _ => ?_) (fun _ => ?_)|fail
  · rename_i hle
    by_cases hd : dv ∣ p ∧ dv ∣ q
    · have e1 := tmod_zero.2 hd.1
      have e2 := tmod_zero.2 hd.2
      repeat' (first|refine X.O ?_|refine X.A ?_|refine X.B ?_|refine X.C ?_|refine X.D ?_|refine X.E ?_|refine X.F ?_|refine X.G ?_|refine X.H ?_|refine X.I ?_|fail)
      refine WL.step (o_rem (by rfl) (by rfl) (by omega) ?_)
      rw [e1]
      repeat' (first|refine X.O ?_|refine X.A ?_|refine X.B ?_|refine X.C ?_|refine X.D ?_|refine X.E ?_|refine X.F ?_|refine X.G ?_|refine X.H ?_|refine X.I ?_|fail)
      refine WL.step (o_rem (by rfl) (by rfl) (by omega) ?_)
      rw [e2]
      repeat' (first|refine X.O ?_|refine X.A ?_|refine X.B ?_|refine X.C ?_|refine X.D ?_|refine X.E ?_|refine X.F ?_|refine X.G ?_|refine X.H ?_|refine X.I ?_|fail)
      exact ⟨(dv, dv + 1), ⟨rfl, rfl, rfl, rfl, trivial⟩, ⟨by omega, by omega, by omega, ⟨fun h => ⟨dv, by omega, by omega, hd.1, hd.2⟩, fun ⟨e, g1, g2, g3, g4⟩ => by
        by_cases he : e = dv
        · omega
        · omega⟩, hs⟩, by omega⟩
    · have hstep : (b > 1 ↔ ∃ e : Int, 2 ≤ e ∧ e < dv + 1 ∧ e ∣ p ∧ e ∣ q) := by
        rw [h4]
        constructor
        · rintro ⟨e, g1, g2, g3, g4⟩; exact ⟨e, g1, by omega, g3, g4⟩
        · rintro ⟨e, g1, g2, g3, g4⟩
          by_cases he : e = dv
          · subst he; exact absurd ⟨g3, g4⟩ hd
          · exact ⟨e, g1, by omega, g3, g4⟩
      by_cases hd1 : dv ∣ p
      · have e1 := tmod_zero.2 hd1
        have e2 : q.tmod dv ≠ 0 := fun e => hd ⟨hd1, tmod_zero.1 e⟩
        obtain ⟨m2, hm2⟩ : ∃ m2, q.tmod dv = m2 := ⟨_, rfl⟩
        rw [hm2] at e2
        repeat' (first|refine X.O ?_|refine X.A ?_|refine X.B ?_|refine X.C ?_|refine X.D ?_|refine X.E ?_|refine X.F ?_|refine X.G ?_|refine X.H ?_|refine X.I ?_|fail)
        refine WL.step (o_rem (by rfl) (by rfl) (by omega) ?_)
        rw [e1]
        repeat' (first|refine X.O ?_|refine X.A ?_|refine X.B ?_|refine X.C ?_|refine X.D ?_|refine X.E ?_|refine X.F ?_|refine X.G ?_|refine X.H ?_|refine X.I ?_|fail)
        refine WL.step (o_rem (by rfl) (by rfl) (by omega) ?_)
        rw [hm2]
        repeat' (first|refine X.O ?_|refine X.A ?_|refine X.B ?_|refine X.C ?_|refine X.D ?_|refine X.E ?_|refine X.F ?_|refine X.G ?_|refine X.H ?_|refine X.I ?_|fail)
        try (refine WP.condD (by rfl) (fun hbad => False.elim (by first | exact hbad rfl | omega)) (fun _ => ?_))
        repeat' (first|refine X.O ?_|refine X.A ?_|refine X.B ?_|refine X.C ?_|refine X.D ?_|refine X.E ?_|refine X.F ?_|refine X.G ?_|refine X.H ?_|refine X.I ?_|fail)
        exact ⟨(b, dv + 1), ⟨rfl, rfl, rfl, rfl, trivial⟩, ⟨by omega, by omega, by omega, hstep, hs⟩, by omega⟩
      · have e1 : p.tmod dv ≠ 0 := fun e => hd1 (tmod_zero.1 e)
        obtain ⟨m1, hm1⟩ : ∃ m1, p.tmod dv = m1 := ⟨_, rfl⟩
        rw [hm1] at e1
        repeat' (first|refine X.O ?_|refine X.A ?_|refine X.B ?_|refine X.C ?_|refine X.D ?_|refine X.E ?_|refine X.F ?_|refine X.G ?_|refine X.H ?_|refine X.I ?_|fail)
        refine WL.step (o_rem (by rfl) (by rfl) (by omega) ?_)
        rw [hm1]
        repeat' (first|refine X.O ?_|refine X.A ?_|refine X.B ?_|refine X.C ?_|refine X.D ?_|refine X.E ?_|refine X.F ?_|refine X.G ?_|refine X.H ?_|refine X.I ?_|fail)
        try (refine WL.gsplitD (by rfl) (by rfl) (by rfl) (fun hbad => False.elim (by first | exact hbad rfl | omega)) (fun _ => ?_))
        repeat' (first|refine X.O ?_|refine X.A ?_|refine X.B ?_|refine X.C ?_|refine X.D ?_|refine X.E ?_|refine X.F ?_|refine X.G ?_|refine X.H ?_|refine X.I ?_|fail)
        exact ⟨(b, dv + 1), ⟨rfl, rfl, rfl, rfl, trivial⟩, ⟨by omega, by omega, by omega, hstep, hs⟩, by omega⟩
  · repeat' (first|refine X.O ?_|refine X.A ?_|refine X.B ?_|refine X.C ?_|refine X.D ?_|refine X.E ?_|refine X.F ?_|refine X.G ?_|refine X.H ?_|refine X.I ?_|fail)
    refine ⟨_, ret1 rfl (by rfl), ?_⟩
    exact ⟨⟨b, rfl, by rw [h4, ← gcd_one hq]; constructor <;> (rintro ⟨e, g1, g2, g3, g4⟩; exact ⟨e, g1, by omega, g3, g4⟩)⟩, hs⟩
theorem divisor_any (p q : Int) (hp1 : -1000 ≤ p) (hp2 : p ≤ 1000) (hq1 : -1000 ≤ q) (hq2 : q ≤ 1000) (w : World) : Does Tryz.prog 108 [.int .i64 p, .int .i64 q] w fun r w' => r = .int .i64 ((p.natAbs.gcd q.natAbs : Nat) : Int) ∧ Still w w' := by
  obtain ⟨g, hg⟩ : ∃ g, p.natAbs.gcd q.natAbs = g := ⟨_, rfl⟩
  rw [hg]
  refine Does.enter Tryz.func108 Tryz.ntmps108 rfl (by rfl) ?_
  repeat' (first|refine X.O ?_|refine X.A ?_|refine X.B ?_|refine X.C ?_|refine X.D ?_|refine X.E ?_|refine X.F ?_|refine X.G ?_|refine X.H ?_|refine X.I ?_|fail)
  refine WP.loop (fun (s : Int × Int) => [(0, .int .i64 s.1), (1, .int .i64 s.2)])
    (fun s y => -1000 ≤ s.1 ∧ s.1 ≤ 1000 ∧ -1000 ≤ s.2 ∧ s.2 ≤ 1000 ∧ s.1.natAbs.gcd s.2.natAbs = g ∧ Still w y) (fun s => s.2.natAbs) (p, q) ⟨rfl, rfl, trivial⟩ ⟨hp1, hp2, hq1, hq2, hg, Still.refl _⟩ ?_
  rintro ⟨a, b⟩ y ⟨h1, h2, h3, h4, h5, hs⟩
  dsimp only at h1 h2 h3 h4 h5 ⊢
  repeat' (first|refine X.O ?_|refine X.A ?_|refine X.B ?_|refine X.C ?_|refine X.D ?_|refine X.E ?_|refine X.F ?_|refine X.G ?_|refine X.H ?_|refine X.I ?_|fail)
  first|refine X.J (fun _ => ?_) (fun _ => ?_)|refine X.L (fun _ => ?_) (fun _ => ?_)|refine X.M (fun _ => ?_) (fun _ => ?_)|refine X.R (fun _ => ?_) (fun _ => ?_)|fail
  · rename_i hne
    have hab := Int.natAbs_tmod a b
    have hlt : a.natAbs % b.natAbs < b.natAbs := Nat.mod_lt _ (by omega)
    have hst := gcd_step (a := a) (b := b)
    repeat' (first|refine X.O ?_|refine X.A ?_|refine X.B ?_|refine X.C ?_|refine X.D ?_|refine X.E ?_|refine X.F ?_|refine X.G ?_|refine X.H ?_|refine X.I ?_|fail)
    refine WP.drawn (fun w' => w'.heap = y.heap) [(0, true), (1, true), (2, true), (3, true), (4, true), (5, true)] (by kernel_rfl) mixed ?_
    intro u hu
    have hS : u.heap = y.heap := hu.heap
    repeat' (first|refine X.U rfl ?_|refine X.V rfl ?_|refine X.W rfl ?_|refine X.Y rfl ?_|refine X.Z rfl ?_|refine WS.nil ?_|fail)
    refine WS.q rfl (q_rem (by rfl) (by rfl) hne) hS ?_
    obtain ⟨m, hm⟩ : ∃ m, a.tmod b = m := ⟨_, rfl⟩
    rw [hm] at hab hst ⊢
    repeat' (first|refine X.U rfl ?_|refine X.V rfl ?_|refine X.W rfl ?_|refine X.Y rfl ?_|refine X.Z rfl ?_|refine WS.nil ?_|fail)
    repeat' (first|refine X.O ?_|refine X.A ?_|refine X.B ?_|refine X.C ?_|refine X.D ?_|refine X.E ?_|refine X.F ?_|refine X.G ?_|refine X.H ?_|refine X.I ?_|fail)
    exact ⟨(b, m), ⟨rfl, rfl, trivial⟩, ⟨h3, h4, by omega, by omega, by rw [hst]; exact h5, hs.trans hu⟩, by dsimp only; omega⟩
  · rename_i he
    have hb : b = 0 := by omega
    subst hb
    repeat' (first|refine X.O ?_|refine X.A ?_|refine X.B ?_|refine X.C ?_|refine X.D ?_|refine X.E ?_|refine X.F ?_|refine X.G ?_|refine X.H ?_|refine X.I ?_|fail)
    refine WL.step (o_neg (by rfl) (by unfold InI; omega) ?_)
    refine WL.step (o_max (by rfl) (by rfl) ?_)
    repeat' (first|refine X.O ?_|refine X.A ?_|refine X.B ?_|refine X.C ?_|refine X.D ?_|refine X.E ?_|refine X.F ?_|refine X.G ?_|refine X.H ?_|refine X.I ?_|fail)
    refine ⟨_, ret1 rfl (by rfl), ?_⟩
    refine ⟨?_, hs⟩
    rw [← h5]
    simp only [Int.natAbs_zero, Nat.gcd_zero_right]
    congr 1
    split <;> omega
end Go.Proofs
