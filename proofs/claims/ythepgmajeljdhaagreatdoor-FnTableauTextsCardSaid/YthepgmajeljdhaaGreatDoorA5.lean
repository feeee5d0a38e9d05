/- Lists of nodes: checked, multiplied out, integrated. -/
import Derived.Test.YthepgmajeljdhaaGreatDoorT1
import Derived.Test.YthepgmajeljdhaaGreatDoorA1
import Derived.Test.YthepgmajeljdhaaGreatDoorPlA
import Derived.Test.YthepgmajeljdhaaGreatDoorHB
namespace Go.Proofs
open Go Go.Fw Go.RowKit Go.Rk

end Go.Proofs
/- The polynomial of the nodes. -/
namespace Go.Proofs
open Go Go.Fw Go.RowKit Go.Rk

theorem Ints_cons (x : Int) (xs : List Int) : Ints (x :: xs) = .int .i64 x :: Ints xs := rfl
theorem Own.is {lo : Nat} {e : TypeId} {w : World} {v : Value} {xs : List Int} (h : Own lo e w v (Ints xs)) : IS lo w.heap.size w v xs := h.toIS (Nat.le_refl _)

theorem Clone_any {lo hi : Nat} {w : World} {v : Value} {xs : List Int} (h : IS lo hi w v xs) (hn : xs.length ≤ 1000000) : Does Tryz.prog 123 [v] w fun r w' => NewI w r w' xs := by
  obtain ⟨_, a, c, hv, _, hcap, _⟩ := id h
  rw [hv] at h ⊢
  refine Does.enter Tryz.func123 Tryz.ntmps123 rfl (by rfl) ?_
  repeat' (first|refine X.O ?_|refine X.A ?_|refine X.B ?_|refine X.C ?_|refine X.D ?_|refine X.E ?_|refine X.F ?_|refine X.G ?_|refine X.H ?_|refine X.I ?_|fail)
  refine WL.step (o_eqNil (by rfl) (by rfl) ?_)
  cases a with
  | none =>
    have h0 : xs = [] := List.eq_nil_of_length_eq_zero (by have := hcap.2 rfl; omega)
    subst h0
    repeat' (first|refine X.O ?_|refine X.A ?_|refine X.B ?_|refine X.C ?_|refine X.D ?_|refine X.E ?_|refine X.F ?_|refine X.G ?_|refine X.H ?_|refine X.I ?_|fail)
    refine ⟨_, ret1 rfl (by rfl), ?_⟩
    exact ⟨Own.nil _ _ _, Below.refl _ _⟩
  | some ad =>
    repeat' (first|refine X.O ?_|refine X.A ?_|refine X.B ?_|refine X.C ?_|refine X.D ?_|refine X.E ?_|refine X.F ?_|refine X.G ?_|refine X.H ?_|refine X.I ?_|fail)
    refine WL.step (o_lit (us := []) (by rfl) (by rfl) rfl (by decide) one0 ?_)
    intro v1 w1 hown1 hbl1 hz1 _
    repeat' (first|refine X.O ?_|refine X.A ?_|refine X.B ?_|refine X.C ?_|refine X.D ?_|refine X.E ?_|refine X.F ?_|refine X.G ?_|refine X.H ?_|refine X.I ?_|fail)
    refine WL.step (o_append (news := Ints xs) (by rfl) (by rfl) hown1 (IS.src (h.below RI.stable hbl1 h.hi_le)) Ints_one (by simp [Ints, maxLen]; omega) (by simp [Ints]; omega) (by omega) ?_)
    intro v2 w2 hown2 _ hbl2 _
    repeat' (first|refine X.O ?_|refine X.A ?_|refine X.B ?_|refine X.C ?_|refine X.D ?_|refine X.E ?_|refine X.F ?_|refine X.G ?_|refine X.H ?_|refine X.I ?_|fail)
    refine ⟨_, ret1 rfl (by rfl), ?_⟩
    exact ⟨hown2, hbl1.trans (Below.mono hbl2 (by omega))⟩
end Go.Proofs
/- The polynomial of the nodes, as the reference has it. -/
namespace Go.Proofs
open Go Go.Fw Go.RowKit Go.Rk

theorem Ints_set (xs : List Int) (i : Nat) (y : Int) : (Ints xs).set i (.int .i64 y) = Ints (xs.set i y) := by simp [Ints, List.map_set]
end Go.Proofs
/- Powers, integrals, and up to which degree a polynomial of nodes is orthogonal. -/
namespace Go.Proofs
open Go Go.Fw Go.RowKit Go.Rk

theorem tmod2 (e : Nat) : ((e : Nat) : Int).tmod 2 = ((e % 2 : Nat) : Int) := by rw [Int.tmod_eq_emod_of_nonneg (by omega)]; omega
theorem tdiv2 (e : Nat) : ((e : Nat) : Int).tdiv 2 = ((e / 2 : Nat) : Int) := by rw [Int.tdiv_eq_ediv_of_nonneg (by omega)]; omega

theorem pow_any (a : Int) (e : Nat) (h0 : 0 ≤ a) (h1 : a ≤ 10006) (he : e ≤ 1000000) (w : World) : Does Tryz.prog 70 [.int .i64 a, .int .i64 (e : Nat)] w fun r w' => r = .int .i64 (powN a e) ∧ Still w w' := by
  refine Does.enter Tryz.func70 Tryz.ntmps70 rfl (by rfl) ?_
  repeat' (first|refine X.O ?_|refine X.A ?_|refine X.B ?_|refine X.C ?_|refine X.D ?_|refine X.E ?_|refine X.F ?_|refine X.G ?_|refine X.H ?_|refine X.I ?_|fail)
  refine WP.loop (fun (s : Int × Int × Nat) => [(0, .int .i64 s.1), (1, .int .i64 (s.2.2 : Nat)), (5, .int .i64 s.2.1)])
    (fun s w2 => 0 ≤ s.1 ∧ s.1 ≤ 10006 ∧ 0 ≤ s.2.1 ∧ s.2.1 ≤ 10006 ∧ s.2.2 ≤ 1000000 ∧ powN a e = powGo s.1 s.2.1 s.2.2 ∧ Still w w2)
    (fun s => s.2.2) (a, 1, e) ⟨rfl, rfl, rfl, trivial⟩ ⟨h0, h1, by dsimp only; omega, by dsimp only; omega, he, rfl, Still.refl _⟩ ?_
  rintro ⟨b, acc, n⟩ w2 ⟨hb0, hb1, hc0, hc1, hn, hq, hs⟩
  dsimp only at hb0 hb1 hc0 hc1 hn hq ⊢
  have hbb := mul_bd hb0 hb1 hb0 hb1
  have hcb := mul_bd hc0 hc1 hb0 hb1
  have hnb := nm_bd (b * b)
  have hnc := nm_bd (acc * b)
  repeat' (first|refine X.O ?_|refine X.A ?_|refine X.B ?_|refine X.C ?_|refine X.D ?_|refine X.E ?_|refine X.F ?_|refine X.G ?_|refine X.H ?_|refine X.I ?_|fail)
  first|refine X.J (fun _ => ?_) (fun _ => ?_)|refine X.L (fun _ => ?_) (fun _ => ?_)|refine X.M (fun _ => ?_) (fun _ => ?_)|refine X.R (fun _ => ?_) (fun _ => ?_)|fail
  · rename_i hpos
    have hn0 : n ≠ 0 := by omega
    rw [powGo_step b acc hn0] at hq
    repeat' (first|refine X.O ?_|refine X.A ?_|refine X.B ?_|refine X.C ?_|refine X.D ?_|refine X.E ?_|refine X.F ?_|refine X.G ?_|refine X.H ?_|refine X.I ?_|fail)
    refine WL.step (o_rem (by rfl) (by rfl) (by decide) ?_)
    rw [tmod2]
    repeat' (first|refine X.O ?_|refine X.A ?_|refine X.B ?_|refine X.C ?_|refine X.D ?_|refine X.E ?_|refine X.F ?_|refine X.G ?_|refine X.H ?_|refine X.I ?_|fail)
    first|refine X.J (fun _ => ?_) (fun _ => ?_)|refine X.L (fun _ => ?_) (fun _ => ?_)|refine X.M (fun _ => ?_) (fun _ => ?_)|refine X.R (fun _ => ?_) (fun _ => ?_)|fail
    · rename_i hodd
      rw [if_pos (by omega)] at hq
      repeat' (first|refine X.O ?_|refine X.A ?_|refine X.B ?_|refine X.C ?_|refine X.D ?_|refine X.E ?_|refine X.F ?_|refine X.G ?_|refine X.H ?_|refine X.I ?_|fail)
      refine WL.step (o_mul (by rfl) (by rfl) (by unfold InI; omega) ?_)
      refine WL.call (num_any _ _) ?_
      rintro _ _ ⟨rfl, rfl⟩
      repeat' (first|refine X.O ?_|refine X.A ?_|refine X.B ?_|refine X.C ?_|refine X.D ?_|refine X.E ?_|refine X.F ?_|refine X.G ?_|refine X.H ?_|refine X.I ?_|fail)
      refine WL.step (o_mul (by rfl) (by rfl) (by unfold InI; omega) ?_)
      refine WL.call (num_any _ _) ?_
      rintro _ _ ⟨rfl, rfl⟩
      repeat' (first|refine X.O ?_|refine X.A ?_|refine X.B ?_|refine X.C ?_|refine X.D ?_|refine X.E ?_|refine X.F ?_|refine X.G ?_|refine X.H ?_|refine X.I ?_|fail)
      refine WL.step (o_quo (by rfl) (by rfl) (by decide) (by rw [tdiv2]; unfold InI; omega) ?_)
      rw [tdiv2]
      repeat' (first|refine X.O ?_|refine X.A ?_|refine X.B ?_|refine X.C ?_|refine X.D ?_|refine X.E ?_|refine X.F ?_|refine X.G ?_|refine X.H ?_|refine X.I ?_|fail)
      exact ⟨(nm (b * b), nm (acc * b), n / 2), ⟨rfl, rfl, rfl, trivial⟩, ⟨hnb.1, hnb.2, hnc.1, hnc.2, by dsimp only; omega, hq, hs⟩, by dsimp only; omega⟩
    · rename_i heven
      rw [if_neg (by omega)] at hq
      repeat' (first|refine X.O ?_|refine X.A ?_|refine X.B ?_|refine X.C ?_|refine X.D ?_|refine X.E ?_|refine X.F ?_|refine X.G ?_|refine X.H ?_|refine X.I ?_|fail)
      refine WL.step (o_mul (by rfl) (by rfl) (by unfold InI; omega) ?_)
      refine WL.call (num_any _ _) ?_
      rintro _ _ ⟨rfl, rfl⟩
      repeat' (first|refine X.O ?_|refine X.A ?_|refine X.B ?_|refine X.C ?_|refine X.D ?_|refine X.E ?_|refine X.F ?_|refine X.G ?_|refine X.H ?_|refine X.I ?_|fail)
      refine WL.step (o_quo (by rfl) (by rfl) (by decide) (by rw [tdiv2]; unfold InI; omega) ?_)
      rw [tdiv2]
      repeat' (first|refine X.O ?_|refine X.A ?_|refine X.B ?_|refine X.C ?_|refine X.D ?_|refine X.E ?_|refine X.F ?_|refine X.G ?_|refine X.H ?_|refine X.I ?_|fail)
      exact ⟨(nm (b * b), acc, n / 2), ⟨rfl, rfl, rfl, trivial⟩, ⟨hnb.1, hnb.2, hc0, hc1, by dsimp only; omega, hq, hs⟩, by dsimp only; omega⟩
  · rename_i hge
    have : n = 0 := by omega
    subst this
    rw [powGo_zero] at hq
    repeat' (first|refine X.O ?_|refine X.A ?_|refine X.B ?_|refine X.C ?_|refine X.D ?_|refine X.E ?_|refine X.F ?_|refine X.G ?_|refine X.H ?_|refine X.I ?_|fail)
    refine ⟨_, ret1 rfl (by rfl), ?_⟩
    exact ⟨by rw [hq], hs⟩
theorem l01Pow_any (a : Int) (e : Nat) (h0 : 0 ≤ a) (h1 : a ≤ 10006) (he : e ≤ 1000000) (w : World) : Does Tryz.prog 100 [.int .i64 a, .int .i64 (e : Nat)] w fun r w' => r = .int .i64 (powN a e) ∧ w = w' := by
  refine Does.enter Tryz.func100 Tryz.ntmps100 rfl (by rfl) ?_
  repeat' (first|refine X.O ?_|refine X.A ?_|refine X.B ?_|refine X.C ?_|refine X.D ?_|refine X.E ?_|refine X.F ?_|refine X.G ?_|refine X.H ?_|refine X.I ?_|fail)
  refine WP.loop (fun (s : Int × Int × Nat) => [(0, .int .i64 s.1), (1, .int .i64 (s.2.2 : Nat)), (5, .int .i64 s.2.1)])
    (fun s w2 => 0 ≤ s.1 ∧ s.1 ≤ 10006 ∧ 0 ≤ s.2.1 ∧ s.2.1 ≤ 10006 ∧ s.2.2 ≤ 1000000 ∧ powN a e = powGo s.1 s.2.1 s.2.2 ∧ w = w2)
    (fun s => s.2.2) (a, 1, e) ⟨rfl, rfl, rfl, trivial⟩ ⟨h0, h1, by dsimp only; omega, by dsimp only; omega, he, rfl, rfl⟩ ?_
  rintro ⟨b, acc, n⟩ _ ⟨hb0, hb1, hc0, hc1, hn, hq, rfl⟩
  dsimp only at hb0 hb1 hc0 hc1 hn hq ⊢
  have hbb := mul_bd hb0 hb1 hb0 hb1
  have hcb := mul_bd hc0 hc1 hb0 hb1
  have hnb := nm_bd (b * b)
  have hnc := nm_bd (acc * b)
  repeat' (first|refine X.O ?_|refine X.A ?_|refine X.B ?_|refine X.C ?_|refine X.D ?_|refine X.E ?_|refine X.F ?_|refine X.G ?_|refine X.H ?_|refine X.I ?_|fail)
  first|refine X.J (fun _ => ?_) (fun _ => ?_)|refine X.L (fun _ => ?_) (fun _ => ?_)|refine X.M (fun _ => ?_) (fun _ => ?_)|refine X.R (fun _ => ?_) (fun _ => ?_)|fail
  · rename_i hpos
    have hn0 : n ≠ 0 := by omega
    rw [powGo_step b acc hn0] at hq
    repeat' (first|refine X.O ?_|refine X.A ?_|refine X.B ?_|refine X.C ?_|refine X.D ?_|refine X.E ?_|refine X.F ?_|refine X.G ?_|refine X.H ?_|refine X.I ?_|fail)
    refine WL.step (o_rem (by rfl) (by rfl) (by decide) ?_)
    rw [tmod2]
    repeat' (first|refine X.O ?_|refine X.A ?_|refine X.B ?_|refine X.C ?_|refine X.D ?_|refine X.E ?_|refine X.F ?_|refine X.G ?_|refine X.H ?_|refine X.I ?_|fail)
    first|refine X.J (fun _ => ?_) (fun _ => ?_)|refine X.L (fun _ => ?_) (fun _ => ?_)|refine X.M (fun _ => ?_) (fun _ => ?_)|refine X.R (fun _ => ?_) (fun _ => ?_)|fail
    · rename_i hodd
      rw [if_pos (by omega)] at hq
      repeat' (first|refine X.O ?_|refine X.A ?_|refine X.B ?_|refine X.C ?_|refine X.D ?_|refine X.E ?_|refine X.F ?_|refine X.G ?_|refine X.H ?_|refine X.I ?_|fail)
      refine WL.call (l01Mul_any acc b _ (by unfold InI; omega)) ?_
      rintro _ _ ⟨rfl, rfl⟩
      repeat' (first|refine X.O ?_|refine X.A ?_|refine X.B ?_|refine X.C ?_|refine X.D ?_|refine X.E ?_|refine X.F ?_|refine X.G ?_|refine X.H ?_|refine X.I ?_|fail)
      refine WL.call (l01Mul_any b b _ (by unfold InI; omega)) ?_
      rintro _ _ ⟨rfl, rfl⟩
      repeat' (first|refine X.O ?_|refine X.A ?_|refine X.B ?_|refine X.C ?_|refine X.D ?_|refine X.E ?_|refine X.F ?_|refine X.G ?_|refine X.H ?_|refine X.I ?_|fail)
      refine WL.step (o_quo (by rfl) (by rfl) (by decide) (by rw [tdiv2]; unfold InI; omega) ?_)
      rw [tdiv2]
      repeat' (first|refine X.O ?_|refine X.A ?_|refine X.B ?_|refine X.C ?_|refine X.D ?_|refine X.E ?_|refine X.F ?_|refine X.G ?_|refine X.H ?_|refine X.I ?_|fail)
      exact ⟨(nm (b * b), nm (acc * b), n / 2), ⟨rfl, rfl, rfl, trivial⟩, ⟨hnb.1, hnb.2, hnc.1, hnc.2, by dsimp only; omega, hq, rfl⟩, by dsimp only; omega⟩
    · rename_i heven
      rw [if_neg (by omega)] at hq
      repeat' (first|refine X.O ?_|refine X.A ?_|refine X.B ?_|refine X.C ?_|refine X.D ?_|refine X.E ?_|refine X.F ?_|refine X.G ?_|refine X.H ?_|refine X.I ?_|fail)
      refine WL.call (l01Mul_any b b _ (by unfold InI; omega)) ?_
      rintro _ _ ⟨rfl, rfl⟩
      repeat' (first|refine X.O ?_|refine X.A ?_|refine X.B ?_|refine X.C ?_|refine X.D ?_|refine X.E ?_|refine X.F ?_|refine X.G ?_|refine X.H ?_|refine X.I ?_|fail)
      refine WL.step (o_quo (by rfl) (by rfl) (by decide) (by rw [tdiv2]; unfold InI; omega) ?_)
      rw [tdiv2]
      repeat' (first|refine X.O ?_|refine X.A ?_|refine X.B ?_|refine X.C ?_|refine X.D ?_|refine X.E ?_|refine X.F ?_|refine X.G ?_|refine X.H ?_|refine X.I ?_|fail)
      exact ⟨(nm (b * b), acc, n / 2), ⟨rfl, rfl, rfl, trivial⟩, ⟨hnb.1, hnb.2, hc0, hc1, by dsimp only; omega, hq, rfl⟩, by dsimp only; omega⟩
  · rename_i hge
    have : n = 0 := by omega
    subst this
    rw [powGo_zero] at hq
    repeat' (first|refine X.O ?_|refine X.A ?_|refine X.B ?_|refine X.C ?_|refine X.D ?_|refine X.E ?_|refine X.F ?_|refine X.G ?_|refine X.H ?_|refine X.I ?_|fail)
    refine ⟨_, ret1 rfl (by rfl), ?_⟩
    exact ⟨by rw [hq], rfl⟩
theorem inv_any (n : Int) (h0 : 0 ≤ n) (h1 : n ≤ 10006) (w : World) : Does Tryz.prog 48 [.int .i64 n] w fun r w' => r = .int .i64 (powN n 10005) ∧ Still w w' := by
  refine Does.enter Tryz.func48 Tryz.ntmps48 rfl (by rfl) ?_
  repeat' (first|refine X.O ?_|refine X.A ?_|refine X.B ?_|refine X.C ?_|refine X.D ?_|refine X.E ?_|refine X.F ?_|refine X.G ?_|refine X.H ?_|refine X.I ?_|fail)
  refine WL.call (pow_any n 10005 h0 h1 (by decide) w) ?_
  rintro _ w1 ⟨rfl, hs⟩
  repeat' (first|refine X.O ?_|refine X.A ?_|refine X.B ?_|refine X.C ?_|refine X.D ?_|refine X.E ?_|refine X.F ?_|refine X.G ?_|refine X.H ?_|refine X.I ?_|fail)
  refine ⟨_, ret1 rfl (by rfl), ?_⟩
  exact ⟨rfl, hs⟩
theorem l01Inv_any (n : Int) (h0 : 0 ≤ n) (h1 : n ≤ 10006) (w : World) : Does Tryz.prog 101 [.int .i64 n] w fun r w' => r = .int .i64 (powN n 10005) ∧ w = w' := by
  refine Does.enter Tryz.func101 Tryz.ntmps101 rfl (by rfl) ?_
  repeat' (first|refine X.O ?_|refine X.A ?_|refine X.B ?_|refine X.C ?_|refine X.D ?_|refine X.E ?_|refine X.F ?_|refine X.G ?_|refine X.H ?_|refine X.I ?_|fail)
  refine WL.call (l01Pow_any n 10005 h0 h1 (by decide) w) ?_
  rintro _ _ ⟨rfl, rfl⟩
  repeat' (first|refine X.O ?_|refine X.A ?_|refine X.B ?_|refine X.C ?_|refine X.D ?_|refine X.E ?_|refine X.F ?_|refine X.G ?_|refine X.H ?_|refine X.I ?_|fail)
  refine ⟨_, ret1 rfl (by rfl), ?_⟩
  exact ⟨rfl, rfl⟩
theorem l01Frac_any (a b : Int) (w : World) : Does Tryz.prog 75 [.int .i64 a, .int .i64 b] w fun r w' => r = .int .i64 (nm (nm a * powN (nm b) 10005)) ∧ w = w' := by
  have h1 := nm_bd a
  have h2 := nm_bd b
  have h3 := powN_bd (nm b) 10005
  have h4 := mul_bd h1.1 h1.2 h3.1 h3.2
  refine Does.enter Tryz.func75 Tryz.ntmps75 rfl (by rfl) ?_
  repeat' (first|refine X.O ?_|refine X.A ?_|refine X.B ?_|refine X.C ?_|refine X.D ?_|refine X.E ?_|refine X.F ?_|refine X.G ?_|refine X.H ?_|refine X.I ?_|fail)
  refine WL.call (l01Mod_any _ _) ?_
  rintro _ _ ⟨rfl, rfl⟩
  repeat' (first|refine X.O ?_|refine X.A ?_|refine X.B ?_|refine X.C ?_|refine X.D ?_|refine X.E ?_|refine X.F ?_|refine X.G ?_|refine X.H ?_|refine X.I ?_|fail)
  refine WL.call (l01Mod_any _ _) ?_
  rintro _ _ ⟨rfl, rfl⟩
  refine WL.call (l01Inv_any (nm b) h2.1 h2.2 _) ?_
  rintro _ _ ⟨rfl, rfl⟩
  refine WL.call (l01Mul_any (nm a) (powN (nm b) 10005) _ (by unfold InI; omega)) ?_
  rintro _ _ ⟨rfl, rfl⟩
  repeat' (first|refine X.O ?_|refine X.A ?_|refine X.B ?_|refine X.C ?_|refine X.D ?_|refine X.E ?_|refine X.F ?_|refine X.G ?_|refine X.H ?_|refine X.I ?_|fail)
  refine ⟨_, ret1 rfl (by rfl), ?_⟩
  exact ⟨rfl, rfl⟩
end Go.Proofs
