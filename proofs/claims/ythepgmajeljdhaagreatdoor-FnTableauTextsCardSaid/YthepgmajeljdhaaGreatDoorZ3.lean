/- The program's texts of numbers, rows and tableaus, walked. -/
import Derived.Test.YthepgmajeljdhaaGreatDoorZ2
import Derived.Test.YthepgmajeljdhaaGreatDoorA1
set_option maxRecDepth 8000
namespace Go.Proofs
open Go Go.Fw Go.RowKit Go.Rk
theorem numberText_any (a : Int) (ha : isN a = true) {w : World} (hT : T10 w) : Does Tryz.prog 83 [.int .i64 a] w fun r w' => r = St (numText a) ∧ Below w.heap.size w w' := by
  have hbd := isN_bd ha
  refine Does.enter Tryz.func83 Tryz.ntmps83 rfl (by rfl) ?_
  repeat' (first|refine X.O ?_|refine X.A ?_|refine X.B ?_|refine X.C ?_|refine X.D ?_|refine X.E ?_|refine X.F ?_|refine X.G ?_|refine X.H ?_|refine X.I ?_|fail)
  refine WP.loop (fun (f : Nat) => [(0, .int .i64 a), (3, .int .i64 (71 - (f : Nat) : Int))])
    (fun f y => f ≤ 70 ∧ numText a = numGo a f (71 - (f : Nat)) ∧ Still w y) (fun f => f) 70 ⟨rfl, rfl, trivial⟩ ⟨by omega, by unfold numText; rfl, Still.refl _⟩ ?_
  rintro f w1 ⟨hf, hnt, hs1⟩
  repeat' (first|refine X.O ?_|refine X.A ?_|refine X.B ?_|refine X.C ?_|refine X.D ?_|refine X.E ?_|refine X.F ?_|refine X.G ?_|refine X.H ?_|refine X.I ?_|fail)
  first|refine X.J (fun _ => ?_) (fun _ => ?_)|refine X.L (fun _ => ?_) (fun _ => ?_)|refine X.M (fun _ => ?_) (fun _ => ?_)|refine X.R (fun _ => ?_) (fun _ => ?_)|fail
  · rename_i hq70
    obtain ⟨f', rfl⟩ : ∃ f', f = f' + 1 := ⟨f - 1, by omega⟩
    obtain ⟨q, hq⟩ : ∃ q : Int, 71 - ((f' + 1 : Nat) : Int) = q := ⟨_, rfl⟩
    rw [hq] at hnt ⊢
    have hq1 : 1 ≤ q := by omega
    have hq2 : q ≤ 70 := by omega
    obtain ⟨hm0, hm1⟩ := mul70 hbd.1 hbd.2 hq1 hq2
    obtain ⟨p, hp⟩ : ∃ p, symm a q = p := ⟨_, rfl⟩
    have hpb := symm_bd a q
    have hpe : p = if nm (a * q) > 5003 then nm (a * q) - 10007 else nm (a * q) := by rw [← hp]; unfold symm; rfl
    have hnb := nm_bd (a * q)
    rw [hp] at hpb
    have hno : fits70 p q = false → numText a = numGo a f' (71 - (f' : Nat)) := fun h => by
      rw [hnt, numGo, if_neg (by rw [hp, h]; simp), show q + 1 = 71 - ((f' : Nat) : Int) by omega]
    have hyes : fits70 p q = true → numText a = fracText p q := fun h => by rw [hnt, numGo, if_pos (by rw [hp, h]), hp]
    repeat' (first|refine X.O ?_|refine X.A ?_|refine X.B ?_|refine X.C ?_|refine X.D ?_|refine X.E ?_|refine X.F ?_|refine X.G ?_|refine X.H ?_|refine X.I ?_|fail)
    refine WL.step (o_mul (by rfl) (by rfl) (by unfold InI; omega) ?_)
    refine WL.call (num_any _ _) ?_
    rintro _ _ ⟨rfl, rfl⟩
    obtain ⟨m, hm⟩ : ∃ m, nm (a * q) = m := ⟨_, rfl⟩
    rw [hm] at hpe hnb ⊢
    repeat' (first|refine X.O ?_|refine X.A ?_|refine X.B ?_|refine X.C ?_|refine X.D ?_|refine X.E ?_|refine X.F ?_|refine X.G ?_|refine X.H ?_|refine X.I ?_|fail)
    refine WP.mid (fun l' y => Agree l' [(0, .int .i64 a), (3, .int .i64 q), (4, .int .i64 p)] ∧ y = w1) ?_ ?_
    · first|refine X.J (fun _ => ?_) (fun _ => ?_)|refine X.L (fun _ => ?_) (fun _ => ?_)|refine X.M (fun _ => ?_) (fun _ => ?_)|refine X.R (fun _ => ?_) (fun _ => ?_)|fail
      · rename_i hgt
        rw [if_pos hgt] at hpe
        repeat' (first|refine X.O ?_|refine X.A ?_|refine X.B ?_|refine X.C ?_|refine X.D ?_|refine X.E ?_|refine X.F ?_|refine X.G ?_|refine X.H ?_|refine X.I ?_|fail)
        exact ⟨⟨rfl, rfl, X.T (by omega), trivial⟩, rfl⟩
      · rename_i hgt
        rw [if_neg hgt] at hpe
        repeat' (first|refine X.O ?_|refine X.A ?_|refine X.B ?_|refine X.C ?_|refine X.D ?_|refine X.E ?_|refine X.F ?_|refine X.G ?_|refine X.H ?_|refine X.I ?_|fail)
        exact ⟨⟨rfl, rfl, X.T (by omega), trivial⟩, rfl⟩
    rintro l' y ⟨hag, rfl⟩
    refine WP.frame _ hag ?_
    clear hag
    repeat' (first|refine X.O ?_|refine X.A ?_|refine X.B ?_|refine X.C ?_|refine X.D ?_|refine X.E ?_|refine X.F ?_|refine X.G ?_|refine X.H ?_|refine X.I ?_|fail)
    refine WL.call (inRange_any _ _ _ _) ?_
    rintro _ w3 ⟨rfl, hs3⟩
    have hs03 := hs1.trans hs3
    by_cases hin : -70 ≤ p ∧ p ≤ 70
    · rw [show decide (-70 ≤ p ∧ p ≤ 70) = true from decide_eq_true hin]
      repeat' (first|refine X.O ?_|refine X.A ?_|refine X.B ?_|refine X.C ?_|refine X.D ?_|refine X.E ?_|refine X.F ?_|refine X.G ?_|refine X.H ?_|refine X.I ?_|fail)
      refine WL.call (divisor_any p q (by omega) (by omega) (by omega) (by omega) _) ?_
      rintro _ w4 ⟨rfl, hs4⟩
      have hs04 := hs03.trans hs4
      have hz4 := hs04.size
      have hT4 := hT.below (hs04.below _)
      repeat' (first|refine X.O ?_|refine X.A ?_|refine X.B ?_|refine X.C ?_|refine X.D ?_|refine X.E ?_|refine X.F ?_|refine X.G ?_|refine X.H ?_|refine X.I ?_|fail)
      first|refine X.J (fun _ => ?_) (fun _ => ?_)|refine X.L (fun _ => ?_) (fun _ => ?_)|refine X.M (fun _ => ?_) (fun _ => ?_)|refine X.R (fun _ => ?_) (fun _ => ?_)|fail
      · rename_i hg
        repeat' (first|refine X.O ?_|refine X.A ?_|refine X.B ?_|refine X.C ?_|refine X.D ?_|refine X.E ?_|refine X.F ?_|refine X.G ?_|refine X.H ?_|refine X.I ?_|fail)
        exact ⟨f', ⟨rfl, X.T (by omega), trivial⟩, ⟨by omega, hno (by unfold fits70; rw [show decide (p.natAbs.gcd q.natAbs = 1) = false from decide_eq_false (by omega)]; simp), hs04⟩, by omega⟩
      · rename_i hg
        have hres := hyes (by unfold fits70; rw [decide_eq_true hin, show decide (p.natAbs.gcd q.natAbs = 1) = true from decide_eq_true (by omega)]; rfl)
        unfold fracText at hres
        have hip := Lib.itoa_length_le p (by omega) (by omega)
        have hiq := Lib.itoa_length_le q (by omega) (by omega)
        repeat' (first|refine X.O ?_|refine X.A ?_|refine X.B ?_|refine X.C ?_|refine X.D ?_|refine X.E ?_|refine X.F ?_|refine X.G ?_|refine X.H ?_|refine X.I ?_|fail)
        first|refine X.J (fun _ => ?_) (fun _ => ?_)|refine X.L (fun _ => ?_) (fun _ => ?_)|refine X.M (fun _ => ?_) (fun _ => ?_)|refine X.R (fun _ => ?_) (fun _ => ?_)|fail
        · rename_i hq0
          rw [if_pos hq0] at hres
          repeat' (first|refine X.O ?_|refine X.A ?_|refine X.B ?_|refine X.C ?_|refine X.D ?_|refine X.E ?_|refine X.F ?_|refine X.G ?_|refine X.H ?_|refine X.I ?_|fail)
          refine WL.call (FormatInt_any p (by omega) (by omega) hT4) ?_
          rintro _ w5 ⟨rfl, hbl5⟩
          repeat' (first|refine X.O ?_|refine X.A ?_|refine X.B ?_|refine X.C ?_|refine X.D ?_|refine X.E ?_|refine X.F ?_|refine X.G ?_|refine X.H ?_|refine X.I ?_|fail)
          refine ⟨_, ret1 rfl (by rfl), ?_⟩
          exact ⟨by rw [hres], (hs04.below _).trans (Below.mono hbl5 (by omega))⟩
        · rename_i hq0
          rw [if_neg hq0] at hres
          repeat' (first|refine X.O ?_|refine X.A ?_|refine X.B ?_|refine X.C ?_|refine X.D ?_|refine X.E ?_|refine X.F ?_|refine X.G ?_|refine X.H ?_|refine X.I ?_|fail)
          refine WL.call (FormatInt_any p (by omega) (by omega) hT4) ?_
          rintro _ w5 ⟨rfl, hbl5⟩
          have hz5 := hbl5.size
          refine WL.step (o_cat (b := [47]) (by rfl) (by rfl) (by simp; omega) ?_)
          repeat' (first|refine X.O ?_|refine X.A ?_|refine X.B ?_|refine X.C ?_|refine X.D ?_|refine X.E ?_|refine X.F ?_|refine X.G ?_|refine X.H ?_|refine X.I ?_|fail)
          refine WL.call (FormatInt_any q (by omega) (by omega) (hT4.below hbl5)) ?_
          rintro _ w6 ⟨rfl, hbl6⟩
          refine WL.step (o_cat (by rfl) (by rfl) (by simp; omega) ?_)
          repeat' (first|refine X.O ?_|refine X.A ?_|refine X.B ?_|refine X.C ?_|refine X.D ?_|refine X.E ?_|refine X.F ?_|refine X.G ?_|refine X.H ?_|refine X.I ?_|fail)
          refine ⟨_, ret1 rfl (by rfl), ?_⟩
          exact ⟨by rw [hres], ((hs04.below _).trans (Below.mono hbl5 (by omega))).trans (Below.mono hbl6 (by omega))⟩
    · rw [show decide (-70 ≤ p ∧ p ≤ 70) = false from decide_eq_false hin]
      repeat' (first|refine X.O ?_|refine X.A ?_|refine X.B ?_|refine X.C ?_|refine X.D ?_|refine X.E ?_|refine X.F ?_|refine X.G ?_|refine X.H ?_|refine X.I ?_|fail)
      exact ⟨f', ⟨rfl, X.T (by omega), trivial⟩, ⟨by omega, hno (by unfold fits70; rw [decide_eq_false hin]; rfl), hs03⟩, by omega⟩
  · rename_i hq70
    have hf0 : f = 0 := by omega
    subst hf0
    repeat' (first|refine X.O ?_|refine X.A ?_|refine X.B ?_|refine X.C ?_|refine X.D ?_|refine X.E ?_|refine X.F ?_|refine X.G ?_|refine X.H ?_|refine X.I ?_|fail)
    refine WL.call (FormatInt_any a (by omega) (by omega) (hT.below (hs1.below _))) ?_
    rintro _ w5 ⟨rfl, hbl5⟩
    repeat' (first|refine X.O ?_|refine X.A ?_|refine X.B ?_|refine X.C ?_|refine X.D ?_|refine X.E ?_|refine X.F ?_|refine X.G ?_|refine X.H ?_|refine X.I ?_|fail)
    refine ⟨_, ret1 rfl (by rfl), ?_⟩
    exact ⟨by rw [hnt, numGo], (hs1.below _).trans (Below.mono hbl5 (by have := hs1.size; omega))⟩
theorem Join_any {lo : Nat} {e : TypeId} {w : World} {v : Value} {xs : List (List UInt8)} (h : Fw.Own lo e w v (xs.map St)) (sep : List UInt8) (hl : (Lib.join xs sep).length ≤ 140737488355328) (hn : xs.length ≤ 1000000) :
    Does Tryz.prog 56 [v, St sep] w fun r w' => r = St (Lib.join xs sep) ∧ Below w.heap.size w w' := by
  cases xs with
  | nil =>
    obtain ⟨a, c, hv, _⟩ := h.shape
    subst hv
    refine Calls.mono (Tryz.strings_Join_none a c ⟨sep.toArray⟩ w) ?_
    rintro e w' ⟨rfl, rfl⟩
    exact ⟨_, rfl, rfl, Below.refl _ _⟩
  | cons x r =>
    obtain ⟨g, c, hv, hg1, hg2, _, _, _⟩ := h.cell (i := 0) (u := St x) rfl
    have hcap : ((x :: r).map St).length ≤ c := by
      obtain ⟨a', c', hv', hc', _⟩ := h.shape
      rw [hv] at hv'
      simp only [Value.slice.injEq] at hv'
      omega
    subst hv
    have em : ((x :: r).map fun l => (⟨l.toArray⟩ : ByteArray)).map (·.data.toList) = x :: r := by
      rw [List.map_map]
      have : ((fun (b : ByteArray) => b.data.toList) ∘ fun (l : List UInt8) => (⟨l.toArray⟩ : ByteArray)) = id := by funext l; rfl
      rw [this, List.map_id]
    have key := Tryz.strings_Join g 0 c ((x :: r).map fun l => (⟨l.toArray⟩ : ByteArray)) ⟨sep.toArray⟩ w (fun j b hb => by
      rw [List.getElem?_map] at hb
      obtain ⟨l, hl', rfl⟩ := Option.map_eq_some_iff.1 hb
      obtain ⟨g', c', hv', _, _, hc, _, _⟩ := h.cell (i := j) (u := St l) (by rw [List.getElem?_map, hl']; rfl)
      simp only [Value.slice.injEq, Option.some.injEq, Addr.mk.injEq, and_true, true_and] at hv'
      obtain ⟨rfl, _⟩ := hv'
      simpa using hc) hg2 (by simp at hn ⊢; omega) (by simpa using hcap) (by rw [em]; exact hl)
    rw [em] at key
    rw [show ((x :: r).map fun l => (⟨l.toArray⟩ : ByteArray)).length = ((x :: r).map St).length by simp] at key
    refine Calls.mono key ?_
    rintro e w' ⟨rfl, hbl⟩
    exact ⟨_, rfl, rfl, hbl⟩
end Go.Proofs
