/- The texts of numbers, walked. -/
import Derived.Test.YthepgmajeljdhaaGreatDoorZ1
import Derived.Test.YthepgmajeljdhaaGreatDoorA1
import Derived.Test.YthepgmajeljdhaaGreatDoorLay3
set_option maxRecDepth 8000
namespace Go.Fw
open Go Go.RowKit Go.Rk
theorem var_keep {P : Program} {w w' : World} {n : String} {cs : Array Value} (h : w.var? P n = some cs) (hb : Below w.heap.size w w') : w'.var? P n = some cs := by
  unfold World.var? at *
  obtain ⟨g, hg, h⟩ := Option.bind_eq_some_iff.1 h
  rw [hg]
  simp only [Option.bind_some]
  have hlt : g < w.heap.size := Nat.lt_of_not_le fun hle => by rw [Array.getElem?_eq_none hle] at h; cases h
  rw [hb.block g hlt]
  exact h
end Go.Fw
namespace Go.Proofs
open Go Go.Fw Go.RowKit Go.Rk
/-- The table of powers of ten stands in its variable. -/
def T10 (w : World) : Prop := Lib.TabIs Tryz.prog w "internal/strconv.uint64pow10" .u64 Lib.pow10Tab
theorem T10.below {w w' : World} (h : T10 w) (hb : Below w.heap.size w w') : T10 w' := var_keep h hb
theorem FormatInt_any (n : Int) (h0 : -9223372036854775808 ≤ n) (h1 : n ≤ 9223372036854775807) {w : World} (h : T10 w) : Does Tryz.prog 109 [.int .i64 n, .int .i64 10] w fun r w' => r = St (Lib.itoa n) ∧ Below w.heap.size w w' := by
  refine Calls.mono (Tryz.strconv_FormatInt_10 n h0 h1 w h) ?_
  rintro e w' ⟨rfl, k, os, rfl⟩
  refine ⟨_, rfl, rfl, ⟨rfl, rfl, rfl, ?_, fun j hj => ?_⟩⟩
  · simp [Go.Sort.grow, World.drewN]
  · simp only [Go.Sort.grow, World.drewN]
    rw [Array.getElem?_append_left hj]
theorem mul70 {a q : Int} (h0 : 0 ≤ a) (h1 : a ≤ 10006) (h2 : 1 ≤ q) (h3 : q ≤ 70) : 0 ≤ a * q ∧ a * q ≤ 700420 :=
  ⟨Int.mul_nonneg h0 (by omega), by have := Int.mul_le_mul h1 h3 (by omega) (by omega : (0 : Int) ≤ 10006); omega⟩
theorem l01Text_any (a : Int) (ha : isN a = true) (w : World) : Does Tryz.prog 88 [.int .i64 a] w fun r w' => r = St (numText a) ∧ Below w.heap.size w w' := by
  have hbd := isN_bd ha
  refine Does.enter Tryz.func88 Tryz.ntmps88 rfl (by rfl) ?_
  repeat' (first|refine X.O ?_|refine X.A ?_|refine X.B ?_|refine X.C ?_|refine X.D ?_|refine X.E ?_|refine X.F ?_|refine X.G ?_|refine X.H ?_|refine X.I ?_|fail)
  refine WP.loop (fun (f : Nat) => [(0, .int .i64 a), (3, .int .i64 (71 - (f : Nat) : Int))])
    (fun f y => f ≤ 70 ∧ numText a = numGo a f (71 - (f : Nat)) ∧ Still w y) (fun f => f) 70 ⟨rfl, rfl, trivial⟩ ⟨by omega, by unfold numText; rfl, Still.refl _⟩ ?_
  rintro f w1 ⟨hf, hnt, hs1⟩
  repeat' (first|refine X.O ?_|refine X.A ?_|refine X.B ?_|refine X.C ?_|refine X.D ?_|refine X.E ?_|refine X.F ?_|refine X.G ?_|refine X.H ?_|refine X.I ?_|fail)
  first|refine X.J (fun _ => ?_) (fun _ => ?_)|refine X.L (fun _ => ?_) (fun _ => ?_)|refine X.M (fun _ => ?_) (fun _ => ?_)|refine X.R (fun _ => ?_) (fun _ => ?_)|fail
  · rename_i hq70
    obtain ⟨f', rfl⟩ : ∃ f', f = f' + 1 := ⟨f - 1, by omega⟩
    obtain ⟨q, hq⟩ : ∃ q : Int, 71 - ((f' + 1 : Nat) : Int) = q := ⟨_, rfl⟩
    rw [hq] at hnt ⊢
    have hq1 : 1 ≤ q := by omega
    have hq2 : q ≤ 70 := by omega
    obtain ⟨qn, hqn⟩ : ∃ qn : Nat, q = (qn : Int) := ⟨q.toNat, by omega⟩
    have hqi : Lib.itoa q = Lib.decDigits qn := by rw [hqn]; exact Lib.itoa_nonneg _
    have hdq : (Lib.decDigits qn).length ≤ 21 := by rw [← hqi]; exact Lib.itoa_length_le q (by omega) (by omega)
    obtain ⟨hm0, hm1⟩ := mul70 hbd.1 hbd.2 hq1 hq2
    repeat' (first|refine X.O ?_|refine X.A ?_|refine X.B ?_|refine X.C ?_|refine X.D ?_|refine X.E ?_|refine X.F ?_|refine X.G ?_|refine X.H ?_|refine X.I ?_|fail)
    refine WP.loop (fun (k : Nat) => [(0, .int .i64 a), (3, .int .i64 q), (4, .int .i64 (71 - (k : Nat) : Int))])
      (fun k y => k ≤ 141 ∧ (∀ p : Int, -70 ≤ p → p < 71 - (k : Nat) → ¬ (nm (p - a * q) = 0 ∧ p.natAbs.gcd q.natAbs = 1)) ∧ Still w y) (fun k => k) 141 ⟨rfl, rfl, rfl, trivial⟩ ⟨by omega, fun p h1 h2 => by omega, hs1⟩ ?_
    clear hs1
    rintro k w2 ⟨hk, hno, hs2⟩
    repeat' (first|refine X.O ?_|refine X.A ?_|refine X.B ?_|refine X.C ?_|refine X.D ?_|refine X.E ?_|refine X.F ?_|refine X.G ?_|refine X.H ?_|refine X.I ?_|fail)
    first|refine X.J (fun _ => ?_) (fun _ => ?_)|refine X.L (fun _ => ?_) (fun _ => ?_)|refine X.M (fun _ => ?_) (fun _ => ?_)|refine X.R (fun _ => ?_) (fun _ => ?_)|fail
    · rename_i hp70
      obtain ⟨k', rfl⟩ : ∃ k', k = k' + 1 := ⟨k - 1, by omega⟩
      obtain ⟨p, hp⟩ : ∃ p : Int, 71 - ((k' + 1 : Nat) : Int) = p := ⟨_, rfl⟩
      rw [hp] at hno ⊢
      have hp1 : -70 ≤ p := by omega
      have hp2 : p ≤ 70 := by omega
      have hnext : ¬ (nm (p - a * q) = 0 ∧ p.natAbs.gcd q.natAbs = 1) → ∀ p' : Int, -70 ≤ p' → p' < 71 - (k' : Nat) → ¬ (nm (p' - a * q) = 0 ∧ p'.natAbs.gcd q.natAbs = 1) := fun hn p' h1 h2 => by
        by_cases e : p' = p
        · subst e; exact hn
        · exact hno p' h1 (by omega)
      have hdone : nm (p - a * q) = 0 ∧ p.natAbs.gcd q.natAbs = 1 → numText a = fracText p q := fun h => by
        obtain ⟨e1, e2⟩ := (ok_iff hp1 hp2).1 h
        rw [hnt]
        unfold numGo
        rw [if_pos e2, ← e1]
      repeat' (first|refine X.O ?_|refine X.A ?_|refine X.B ?_|refine X.C ?_|refine X.D ?_|refine X.E ?_|refine X.F ?_|refine X.G ?_|refine X.H ?_|refine X.I ?_|fail)
      refine WL.step (o_mul (by rfl) (by rfl) (by unfold InI; omega) ?_)
      obtain ⟨m, hm⟩ : ∃ m, a * q = m := ⟨_, rfl⟩
      rw [hm] at hnext hdone hm0 hm1 ⊢
      repeat' (first|refine X.O ?_|refine X.A ?_|refine X.B ?_|refine X.C ?_|refine X.D ?_|refine X.E ?_|refine X.F ?_|refine X.G ?_|refine X.H ?_|refine X.I ?_|fail)
      refine WL.call (l01Mod_any _ _) ?_
      rintro _ _ ⟨rfl, rfl⟩
      by_cases hz : nm (p - m) = 0
      · rw [hz]
        repeat' (first|refine X.O ?_|refine X.A ?_|refine X.B ?_|refine X.C ?_|refine X.D ?_|refine X.E ?_|refine X.F ?_|refine X.G ?_|refine X.H ?_|refine X.I ?_|fail)
        try (refine WL.gsplitD (by rfl) (by rfl) (by rfl) (fun hbad => False.elim (by first | exact hbad rfl | omega)) (fun _ => ?_))
        repeat' (first|refine X.O ?_|refine X.A ?_|refine X.B ?_|refine X.C ?_|refine X.D ?_|refine X.E ?_|refine X.F ?_|refine X.G ?_|refine X.H ?_|refine X.I ?_|fail)
        refine WL.call (l01Common_any p q (by unfold InI; omega) hq1 (by omega) _) ?_
        rintro _ w3 ⟨⟨c, rfl, hc⟩, hs3⟩
        have hs03 := hs2.trans hs3
        repeat' (first|refine X.O ?_|refine X.A ?_|refine X.B ?_|refine X.C ?_|refine X.D ?_|refine X.E ?_|refine X.F ?_|refine X.G ?_|refine X.H ?_|refine X.I ?_|fail)
        first|refine X.J (fun _ => ?_) (fun _ => ?_)|refine X.L (fun _ => ?_) (fun _ => ?_)|refine X.M (fun _ => ?_) (fun _ => ?_)|refine X.R (fun _ => ?_) (fun _ => ?_)|fail
        · rename_i hc1
          have hg := hc.1 hc1
          repeat' (first|refine X.O ?_|refine X.A ?_|refine X.B ?_|refine X.C ?_|refine X.D ?_|refine X.E ?_|refine X.F ?_|refine X.G ?_|refine X.H ?_|refine X.I ?_|fail)
          exact ⟨k', ⟨rfl, rfl, X.T (by omega), trivial⟩, ⟨by omega, hnext (fun h => hg h.2), hs03⟩, by omega⟩
        · rename_i hc1
          have hg : p.natAbs.gcd q.natAbs = 1 := Classical.byContradiction fun h => hc1 (hc.2 h)
          have hres := hdone ⟨hz, hg⟩
          unfold fracText at hres
          have hip := Lib.itoa_length_le p (by omega) (by omega)
          have hz3 := hs03.size
          repeat' (first|refine X.O ?_|refine X.A ?_|refine X.B ?_|refine X.C ?_|refine X.D ?_|refine X.E ?_|refine X.F ?_|refine X.G ?_|refine X.H ?_|refine X.I ?_|fail)
          first|refine X.J (fun _ => ?_) (fun _ => ?_)|refine X.L (fun _ => ?_) (fun _ => ?_)|refine X.M (fun _ => ?_) (fun _ => ?_)|refine X.R (fun _ => ?_) (fun _ => ?_)|fail
          · rename_i hneg
            have hie : Lib.itoa p = [45] ++ Lib.decDigits p.natAbs := by unfold Lib.itoa; rw [if_pos hneg]; rfl
            have hdl : (Lib.decDigits p.natAbs).length ≤ 21 := by rw [hie] at hip; simp at hip; omega
            repeat' (first|refine X.O ?_|refine X.A ?_|refine X.B ?_|refine X.C ?_|refine X.D ?_|refine X.E ?_|refine X.F ?_|refine X.G ?_|refine X.H ?_|refine X.I ?_|fail)
            refine WL.step (o_neg (by rfl) (by unfold InI; omega) ?_)
            rw [show -p = ((p.natAbs : Nat) : Int) by omega]
            refine WL.call (l01Dec_any p.natAbs (by omega) _) ?_
            rintro _ w5 ⟨rfl, hbl5⟩
            have hz5 := hbl5.size
            refine WL.step (o_cat (a := [45]) (by rfl) (by rfl) (by simp; omega) ?_)
            rw [← hie]
            repeat' (first|refine X.O ?_|refine X.A ?_|refine X.B ?_|refine X.C ?_|refine X.D ?_|refine X.E ?_|refine X.F ?_|refine X.G ?_|refine X.H ?_|refine X.I ?_|fail)
            first|refine X.J (fun _ => ?_) (fun _ => ?_)|refine X.L (fun _ => ?_) (fun _ => ?_)|refine X.M (fun _ => ?_) (fun _ => ?_)|refine X.R (fun _ => ?_) (fun _ => ?_)|fail
            · repeat' (first|refine X.O ?_|refine X.A ?_|refine X.B ?_|refine X.C ?_|refine X.D ?_|refine X.E ?_|refine X.F ?_|refine X.G ?_|refine X.H ?_|refine X.I ?_|fail)
              refine WL.step (o_cat (a := Lib.itoa p) (b := [47]) (by rfl) (by rfl) (by simp; omega) ?_)
              repeat' (first|refine X.O ?_|refine X.A ?_|refine X.B ?_|refine X.C ?_|refine X.D ?_|refine X.E ?_|refine X.F ?_|refine X.G ?_|refine X.H ?_|refine X.I ?_|fail)
              rw [hqn]
              refine WL.call (l01Dec_any qn (by omega) _) ?_
              rintro _ w6 ⟨rfl, hbl6⟩
              refine WL.step (o_cat (by rfl) (by rfl) (by simp; omega) ?_)
              repeat' (first|refine X.O ?_|refine X.A ?_|refine X.B ?_|refine X.C ?_|refine X.D ?_|refine X.E ?_|refine X.F ?_|refine X.G ?_|refine X.H ?_|refine X.I ?_|fail)
              refine ⟨_, ret1 rfl (by rfl), ?_⟩
              refine ⟨?_, ((hs03.below _).trans (Below.mono hbl5 (by omega))).trans (Below.mono hbl6 (by omega))⟩
              rw [hres, if_neg (by omega), hqi]
            · repeat' (first|refine X.O ?_|refine X.A ?_|refine X.B ?_|refine X.C ?_|refine X.D ?_|refine X.E ?_|refine X.F ?_|refine X.G ?_|refine X.H ?_|refine X.I ?_|fail)
              refine ⟨_, ret1 rfl (by rfl), ?_⟩
              refine ⟨?_, (hs03.below _).trans (Below.mono hbl5 (by omega))⟩
              rw [hres, if_pos (by omega)]
          · rename_i hneg
            obtain ⟨pn, hpn⟩ : ∃ pn : Nat, p = (pn : Int) := ⟨p.toNat, by omega⟩
            have hie : Lib.itoa p = Lib.decDigits pn := by rw [hpn]; exact Lib.itoa_nonneg _
            repeat' (first|refine X.O ?_|refine X.A ?_|refine X.B ?_|refine X.C ?_|refine X.D ?_|refine X.E ?_|refine X.F ?_|refine X.G ?_|refine X.H ?_|refine X.I ?_|fail)
            rw [show (Value.int .i64 p) = .int .i64 ((pn : Nat) : Int) by rw [hpn]]
            refine WL.call (l01Dec_any pn (by omega) _) ?_
            rintro _ w5 ⟨rfl, hbl5⟩
            have hz5 := hbl5.size
            rw [← hie]
            repeat' (first|refine X.O ?_|refine X.A ?_|refine X.B ?_|refine X.C ?_|refine X.D ?_|refine X.E ?_|refine X.F ?_|refine X.G ?_|refine X.H ?_|refine X.I ?_|fail)
            first|refine X.J (fun _ => ?_) (fun _ => ?_)|refine X.L (fun _ => ?_) (fun _ => ?_)|refine X.M (fun _ => ?_) (fun _ => ?_)|refine X.R (fun _ => ?_) (fun _ => ?_)|fail
            · repeat' (first|refine X.O ?_|refine X.A ?_|refine X.B ?_|refine X.C ?_|refine X.D ?_|refine X.E ?_|refine X.F ?_|refine X.G ?_|refine X.H ?_|refine X.I ?_|fail)
              refine WL.step (o_cat (a := Lib.itoa p) (b := [47]) (by rfl) (by rfl) (by simp; omega) ?_)
              repeat' (first|refine X.O ?_|refine X.A ?_|refine X.B ?_|refine X.C ?_|refine X.D ?_|refine X.E ?_|refine X.F ?_|refine X.G ?_|refine X.H ?_|refine X.I ?_|fail)
              rw [hqn]
              refine WL.call (l01Dec_any qn (by omega) _) ?_
              rintro _ w6 ⟨rfl, hbl6⟩
              refine WL.step (o_cat (by rfl) (by rfl) (by simp; omega) ?_)
              repeat' (first|refine X.O ?_|refine X.A ?_|refine X.B ?_|refine X.C ?_|refine X.D ?_|refine X.E ?_|refine X.F ?_|refine X.G ?_|refine X.H ?_|refine X.I ?_|fail)
              refine ⟨_, ret1 rfl (by rfl), ?_⟩
              refine ⟨?_, ((hs03.below _).trans (Below.mono hbl5 (by omega))).trans (Below.mono hbl6 (by omega))⟩
              rw [hres, if_neg (by omega), hqi]
            · repeat' (first|refine X.O ?_|refine X.A ?_|refine X.B ?_|refine X.C ?_|refine X.D ?_|refine X.E ?_|refine X.F ?_|refine X.G ?_|refine X.H ?_|refine X.I ?_|fail)
              refine ⟨_, ret1 rfl (by rfl), ?_⟩
              refine ⟨?_, (hs03.below _).trans (Below.mono hbl5 (by omega))⟩
              rw [hres, if_pos (by omega)]
      · obtain ⟨m2, hm2⟩ : ∃ m2, nm (p - m) = m2 := ⟨_, rfl⟩
        rw [hm2] at hz hnext ⊢
        repeat' (first|refine X.O ?_|refine X.A ?_|refine X.B ?_|refine X.C ?_|refine X.D ?_|refine X.E ?_|refine X.F ?_|refine X.G ?_|refine X.H ?_|refine X.I ?_|fail)
        refine WL.gsplitD (by rfl) (by rfl) (by rfl) (fun _ => ?_) (fun hbad => absurd hz hbad)
        repeat' (first|refine X.O ?_|refine X.A ?_|refine X.B ?_|refine X.C ?_|refine X.D ?_|refine X.E ?_|refine X.F ?_|refine X.G ?_|refine X.H ?_|refine X.I ?_|fail)
        exact ⟨k', ⟨rfl, rfl, X.T (by omega), trivial⟩, ⟨by omega, hnext (fun h => hz h.1), hs2⟩, by omega⟩
    · rename_i hp70
      have hk0 : k = 0 := by omega
      subst hk0
      have hnf := fits_none (a := a) (q := q) fun p h1 h2 => hno p h1 (by omega)
      repeat' (first|refine X.O ?_|refine X.A ?_|refine X.B ?_|refine X.C ?_|refine X.D ?_|refine X.E ?_|refine X.F ?_|refine X.G ?_|refine X.H ?_|refine X.I ?_|fail)
      exact ⟨f', ⟨rfl, X.T (by omega), trivial⟩, ⟨by omega, by rw [hnt, numGo, if_neg (by rw [hnf]; simp), show q + 1 = 71 - ((f' : Nat) : Int) by omega], hs2⟩, by omega⟩
  · rename_i hq70
    have hf0 : f = 0 := by omega
    subst hf0
    obtain ⟨an, han⟩ : ∃ an : Nat, a = (an : Int) := ⟨a.toNat, by omega⟩
    have hai : Lib.itoa a = Lib.decDigits an := by rw [han]; exact Lib.itoa_nonneg _
    repeat' (first|refine X.O ?_|refine X.A ?_|refine X.B ?_|refine X.C ?_|refine X.D ?_|refine X.E ?_|refine X.F ?_|refine X.G ?_|refine X.H ?_|refine X.I ?_|fail)
    rw [show (Value.int .i64 a) = .int .i64 ((an : Nat) : Int) by rw [han]]
    refine WL.call (l01Dec_any an (by omega) _) ?_
    rintro _ w5 ⟨rfl, hbl5⟩
    repeat' (first|refine X.O ?_|refine X.A ?_|refine X.B ?_|refine X.C ?_|refine X.D ?_|refine X.E ?_|refine X.F ?_|refine X.G ?_|refine X.H ?_|refine X.I ?_|fail)
    refine ⟨_, ret1 rfl (by rfl), ?_⟩
    exact ⟨by rw [hnt, numGo, hai], (hs1.below _).trans (Below.mono hbl5 (by have := hs1.size; omega))⟩
end Go.Proofs
