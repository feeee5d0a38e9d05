/- The reference's ParseNumber, walked. -/
import Derived.Test.YthepgmajeljdhaaGreatDoorZ6
import Derived.Test.YthepgmajeljdhaaGreatDoorA5
set_option maxRecDepth 8000
namespace Go.Rk
open Go.Fw Go.Proofs
def negL (t : List UInt8) : Bool := t[0]? == some 45
/-- The number of a text with parts between slashes: its value and a code. -/
def parseParts (ps : List (List UInt8)) : Int × Int :=
  let p0 := ps.headD []
  let neg := negL p0
  let p := valueL (if neg = true then p0.drop 1 else p0)
  let q := if ps.length = 2 then valueL (ps[1]?.getD []) else 1
  if 2 < ps.length ∨ p < 0 ∨ q < 1 ∨ (p = 0 ∧ neg = true) then (0, 6) else if q.tmod 10007 = 0 then (0, 5) else (nm (nm ((if neg = true then -1 else 1) * p) * powN (nm q) 10005), 0)
def parseNum (t : List UInt8) : Int × Int := parseParts (split1 47 t)
theorem parts_neg {t : List UInt8} : negL ((split1 47 t).headD []) = negL t := by
  cases t with
  | nil => rfl
  | cons c r =>
    rw [split1]
    by_cases h : c = 47
    · subst h; rfl
    · rw [if_neg h]; rfl
theorem value_le (s : List UInt8) : valueL s ≤ 999999999 := by
  rcases value_cases s with h | h
  · omega
  · obtain ⟨n, h1, _, _, h4⟩ := value_of h
    omega
end Go.Rk
namespace Go.Proofs
open Go Go.Fw Go.RowKit Go.Rk
set_option maxHeartbeats 1000000 in
theorem sParseNumber_any (t : List UInt8) (ht : t.length ≤ 4000000000) (w : World) : Does Tryz.prog 69 [St t] w fun r w' => r = .tuple #[.int .i64 (parseNum t).1, .int .i64 (parseNum t).2] ∧ Below w.heap.size w w' := by
  refine Does.enter Tryz.func69 Tryz.ntmps69 rfl (by rfl) ?_
  repeat' (first|refine X.O ?_|refine X.A ?_|refine X.B ?_|refine X.C ?_|refine X.D ?_|refine X.E ?_|refine X.F ?_|refine X.G ?_|refine X.H ?_|refine X.I ?_|fail)
  refine WL.call (l01Split_any t 47 ht w) ?_
  rintro v1 w1 ⟨hown1, hb1⟩
  have hz1 := hb1.size
  unfold parseNum
  obtain ⟨ps, hps⟩ : ∃ ps, split1 47 t = ps := ⟨_, rfl⟩
  have hne := split1_ne 47 t
  rw [hps] at hown1 hne ⊢
  obtain ⟨p0, rest, rfl⟩ := List.exists_cons_of_ne_nil hne
  obtain ⟨a1, c1, hv1, _⟩ := hown1.shape
  rw [List.length_map] at hv1
  subst hv1
  have rd : ∀ {w' : World} {us : List Value} {lo : Nat} {v : Value}, Fw.Own lo 9 w' v us → SL (fun _ _ _ u x => u = x) lo w'.heap.size w' v us := fun h => h.toSL rfl (Nat.le_refl _) (fun k hk => (h.block k hk).2) (Nat.le_refl _) (fun i u x hu hx => by rw [hu] at hx; simpa using hx)
  have h0 : ((p0 :: rest).map St)[0]? = some (St p0) := rfl
  obtain ⟨neg, hneg⟩ : ∃ neg, negL p0 = neg := ⟨_, rfl⟩
  obtain ⟨p0', hp0'⟩ : ∃ p0', (if neg = true then p0.drop 1 else p0) = p0' := ⟨_, rfl⟩
  obtain ⟨sg, hsg⟩ : ∃ sg : Int, (if neg = true then -1 else 1) = sg := ⟨_, rfl⟩
  have hpp : parseParts (p0 :: rest) = if 2 < (p0 :: rest).length ∨ valueL p0' < 0 ∨ (if (p0 :: rest).length = 2 then valueL ((p0 :: rest)[1]?.getD []) else 1) < 1 ∨ (valueL p0' = 0 ∧ neg = true) then (0, 6) else if (if (p0 :: rest).length = 2 then valueL ((p0 :: rest)[1]?.getD []) else 1).tmod 10007 = 0 then (0, 5) else (nm (nm (sg * valueL p0') * powN (nm (if (p0 :: rest).length = 2 then valueL ((p0 :: rest)[1]?.getD []) else 1)) 10005), 0) := by
    rw [← hp0', ← hsg, ← hneg]; rfl
  first|refine X.O ?_|refine X.A ?_|refine X.B ?_|refine X.C ?_|refine X.D ?_|refine X.E ?_|refine X.F ?_|refine X.G ?_|refine X.H ?_|refine X.I ?_|fail
  first|refine X.O ?_|refine X.A ?_|refine X.B ?_|refine X.C ?_|refine X.D ?_|refine X.E ?_|refine X.F ?_|refine X.G ?_|refine X.H ?_|refine X.I ?_|fail
  refine WL.nil ?_
  refine thenN ?_
  refine WP.seq ?_
  refine WP.mid (fun l' y => ∃ v, Agree l' [(4, v), (5, .int .i64 sg)] ∧ Fw.Own w.heap.size 9 y v ((p0' :: rest).map St) ∧ Below w.heap.size w y) ?_ ?_
  · repeat' (first|refine X.O ?_|refine X.A ?_|refine X.B ?_|refine X.C ?_|refine X.D ?_|refine X.E ?_|refine X.F ?_|refine X.G ?_|refine X.H ?_|refine X.I ?_|fail)
    refine WL.ixload (j := 0) (rd hown1) h0 ?_
    intro q1 u1 hu1
    rw [show u1 = St p0 from hu1]
    clear hu1 u1
    refine WL.step (o_lenT (by rfl) ?_)
    repeat' (first|refine X.O ?_|refine X.A ?_|refine X.B ?_|refine X.C ?_|refine X.D ?_|refine X.E ?_|refine X.F ?_|refine X.G ?_|refine X.H ?_|refine X.I ?_|fail)
    refine WL.gsplitD (by rfl) (by rfl) (by rfl) (fun hl => ?_) (fun hl => ?_)
    · have hp : 0 < p0.length := by omega
      repeat' (first|refine X.O ?_|refine X.A ?_|refine X.B ?_|refine X.C ?_|refine X.D ?_|refine X.E ?_|refine X.F ?_|refine X.G ?_|refine X.H ?_|refine X.I ?_|fail)
      refine WL.ixload (j := 0) (rd hown1) h0 ?_
      intro q2 u2 hu2
      rw [show u2 = St p0 from hu2]
      clear hu2 u2
      refine WL.step (o_indexT (i := 0) (by rfl) (by rfl) rfl hp ?_)
      repeat' (first|refine X.O ?_|refine X.A ?_|refine X.B ?_|refine X.C ?_|refine X.D ?_|refine X.E ?_|refine X.F ?_|refine X.G ?_|refine X.H ?_|refine X.I ?_|fail)
      first|refine X.J (fun _ => ?_) (fun _ => ?_)|refine X.L (fun _ => ?_) (fun _ => ?_)|refine X.M (fun _ => ?_) (fun _ => ?_)|refine X.R (fun _ => ?_) (fun _ => ?_)|fail
      · rename_i h45
        have hc : p0[0] = 45 := UInt8.toNat_inj.1 (by have : (45 : UInt8).toNat = 45 := rfl; omega)
        have hn : neg = true := by rw [← hneg]; unfold negL; rw [List.getElem?_eq_getElem hp, hc]; rfl
        rw [if_pos hn] at hp0' hsg
        repeat' (first|refine X.O ?_|refine X.A ?_|refine X.B ?_|refine X.C ?_|refine X.D ?_|refine X.E ?_|refine X.F ?_|refine X.G ?_|refine X.H ?_|refine X.I ?_|fail)
        refine WL.ixload (j := 0) (rd hown1) h0 ?_
        intro q3 u3 hu3
        rw [show u3 = St p0 from hu3]
        clear hu3 u3
        refine WL.step (o_sliceTl (i := 1) (by rfl) (by rfl) (by omega) ?_)
        refine WL.ixstore (j := 0) hown1 (by simp) ?_
        intro q4 w2 hown2 hb2 hz2 _
        repeat' (first|refine X.O ?_|refine X.A ?_|refine X.B ?_|refine X.C ?_|refine X.D ?_|refine X.E ?_|refine X.F ?_|refine X.G ?_|refine X.H ?_|refine X.I ?_|fail)
        exact ⟨_, ⟨rfl, by rw [← hsg]; rfl, trivial⟩, by rw [← hp0']; exact hown2, hb1.trans hb2⟩
      · rename_i h45
        have hn : neg = false := by
          rw [← hneg]; unfold negL; rw [List.getElem?_eq_getElem hp]
          cases hq : (some p0[0] == some (45 : UInt8)) with
          | false => rfl
          | true =>
            have : p0[0] = 45 := by simpa using hq
            exact absurd (by rw [this]; rfl) h45
        rw [if_neg (by rw [hn]; simp)] at hp0' hsg
        repeat' (first|refine X.O ?_|refine X.A ?_|refine X.B ?_|refine X.C ?_|refine X.D ?_|refine X.E ?_|refine X.F ?_|refine X.G ?_|refine X.H ?_|refine X.I ?_|fail)
        exact ⟨_, ⟨rfl, by rw [← hsg]; rfl, trivial⟩, by rw [← hp0']; exact hown1, hb1⟩
    · have hp : p0 = [] := List.eq_nil_of_length_eq_zero (by omega)
      have hn : neg = false := by rw [← hneg, hp]; rfl
      rw [if_neg (by rw [hn]; simp)] at hp0' hsg
      repeat' (first|refine X.O ?_|refine X.A ?_|refine X.B ?_|refine X.C ?_|refine X.D ?_|refine X.E ?_|refine X.F ?_|refine X.G ?_|refine X.H ?_|refine X.I ?_|fail)
      exact ⟨_, ⟨rfl, by rw [← hsg]; rfl, trivial⟩, by rw [← hp0']; exact hown1, hb1⟩
  rintro l' w2 ⟨v, hag, hown, hb2⟩
  refine WP.frame _ hag ?_
  clear hag hown1 hb1 h0
  obtain ⟨a2, c2, hv2, _⟩ := hown.shape
  rw [List.length_map] at hv2
  subst hv2
  have h0 : ((p0' :: rest).map St)[0]? = some (St p0') := rfl
  have hvl := value_le p0'
  have hz2 := hb2.size
  obtain ⟨P, hP⟩ : ∃ P, valueL p0' = P := ⟨_, rfl⟩
  obtain ⟨q, hq⟩ : ∃ q, (if (p0 :: rest).length = 2 then valueL ((p0 :: rest)[1]?.getD []) else 1) = q := ⟨_, rfl⟩
  have hvq := value_le ((p0 :: rest)[1]?.getD [])
  have hqb : q ≤ 999999999 := by rw [← hq]; split <;> omega
  rw [hP, hq] at hpp
  rw [hP] at hvl
  rw [List.length_cons] at hpp hq
  rw [List.length_cons] at hown ⊢
  repeat' (first|refine X.O ?_|refine X.A ?_|refine X.B ?_|refine X.C ?_|refine X.D ?_|refine X.E ?_|refine X.F ?_|refine X.G ?_|refine X.H ?_|refine X.I ?_|fail)
  refine WL.ixload (j := 0) (rd hown) h0 ?_
  intro q1 u1 hu1
  rw [show u1 = St p0' from hu1]
  clear hu1 u1
  refine WL.call (l01Value_any p0' _) ?_
  rintro _ w3 ⟨rfl, hs3⟩
  rw [hP]
  have hown3 := hown.still hs3
  have hb3 := hb2.trans (hs3.below _)
  clear hown hb2 hs3
  first|refine X.O ?_|refine X.A ?_|refine X.B ?_|refine X.C ?_|refine X.D ?_|refine X.E ?_|refine X.F ?_|refine X.G ?_|refine X.H ?_|refine X.I ?_|fail
  first|refine X.O ?_|refine X.A ?_|refine X.B ?_|refine X.C ?_|refine X.D ?_|refine X.E ?_|refine X.F ?_|refine X.G ?_|refine X.H ?_|refine X.I ?_|fail
  refine WL.nil ?_
  refine thenN ?_
  refine WP.seq ?_
  refine WP.mid (fun l' y => Agree l' [(4, .slice a2 (rest.length + 1) c2), (5, .int .i64 sg), (6, .int .i64 P), (7, .int .i64 q)] ∧ Below w.heap.size w y) ?_ ?_
  · repeat' (first|refine X.O ?_|refine X.A ?_|refine X.B ?_|refine X.C ?_|refine X.D ?_|refine X.E ?_|refine X.F ?_|refine X.G ?_|refine X.H ?_|refine X.I ?_|fail)
    first|refine X.J (fun _ => ?_) (fun _ => ?_)|refine X.L (fun _ => ?_) (fun _ => ?_)|refine X.M (fun _ => ?_) (fun _ => ?_)|refine X.R (fun _ => ?_) (fun _ => ?_)|fail
    · rename_i h2
      have h2' : rest.length + 1 = 2 := by omega
      rw [if_pos h2'] at hq
      obtain ⟨p1, r2, rfl⟩ : ∃ p1 r2, rest = p1 :: r2 := by
        cases rest with
        | nil => simp at h2'
        | cons a b => exact ⟨a, b, rfl⟩
      have hq' : valueL p1 = q := hq
      repeat' (first|refine X.O ?_|refine X.A ?_|refine X.B ?_|refine X.C ?_|refine X.D ?_|refine X.E ?_|refine X.F ?_|refine X.G ?_|refine X.H ?_|refine X.I ?_|fail)
      refine WL.ixload (j := 1) (rd hown3) (show ((p0' :: p1 :: r2).map St)[1]? = some (St p1) from rfl) ?_
      intro q2 u2 hu2
      rw [show u2 = St p1 from hu2]
      clear hu2 u2
      refine WL.call (l01Value_any p1 _) ?_
      rintro _ w4 ⟨rfl, hs4⟩
      rw [hq']
      repeat' (first|refine X.O ?_|refine X.A ?_|refine X.B ?_|refine X.C ?_|refine X.D ?_|refine X.E ?_|refine X.F ?_|refine X.G ?_|refine X.H ?_|refine X.I ?_|fail)
      exact ⟨⟨rfl, rfl, rfl, rfl, trivial⟩, hb3.trans (hs4.below _)⟩
    · rename_i h2
      rw [if_neg (by omega)] at hq
      subst hq
      repeat' (first|refine X.O ?_|refine X.A ?_|refine X.B ?_|refine X.C ?_|refine X.D ?_|refine X.E ?_|refine X.F ?_|refine X.G ?_|refine X.H ?_|refine X.I ?_|fail)
      exact ⟨⟨rfl, rfl, rfl, rfl, trivial⟩, hb3⟩
  clear hown3 hb3
  rintro l' w4 ⟨hag, hb4⟩
  refine WP.frame _ hag ?_
  clear hag
  rw [hpp]
  repeat' (first|refine X.O ?_|refine X.A ?_|refine X.B ?_|refine X.C ?_|refine X.D ?_|refine X.E ?_|refine X.F ?_|refine X.G ?_|refine X.H ?_|refine X.I ?_|fail)
  refine WL.gsplitD (by rfl) (by rfl) (by rfl) (fun g1 => ?_) (fun g1 => ?_)
  · rw [if_pos (Or.inl (by omega))]
    repeat' (first|refine X.O ?_|refine X.A ?_|refine X.B ?_|refine X.C ?_|refine X.D ?_|refine X.E ?_|refine X.F ?_|refine X.G ?_|refine X.H ?_|refine X.I ?_|fail)
    refine ⟨_, ret2 rfl (by rfl) (by rfl), ?_⟩
    exact ⟨rfl, hb4⟩
  repeat' (first|refine X.O ?_|refine X.A ?_|refine X.B ?_|refine X.C ?_|refine X.D ?_|refine X.E ?_|refine X.F ?_|refine X.G ?_|refine X.H ?_|refine X.I ?_|fail)
  refine WL.gsplitD (by rfl) (by rfl) (by rfl) (fun g2 => ?_) (fun g2 => ?_)
  · rw [if_pos (Or.inr (Or.inl g2))]
    repeat' (first|refine X.O ?_|refine X.A ?_|refine X.B ?_|refine X.C ?_|refine X.D ?_|refine X.E ?_|refine X.F ?_|refine X.G ?_|refine X.H ?_|refine X.I ?_|fail)
    refine ⟨_, ret2 rfl (by rfl) (by rfl), ?_⟩
    exact ⟨rfl, hb4⟩
  repeat' (first|refine X.O ?_|refine X.A ?_|refine X.B ?_|refine X.C ?_|refine X.D ?_|refine X.E ?_|refine X.F ?_|refine X.G ?_|refine X.H ?_|refine X.I ?_|fail)
  refine WL.gsplitD (by rfl) (by rfl) (by rfl) (fun g3 => ?_) (fun g3 => ?_)
  · rw [if_pos (Or.inr (Or.inr (Or.inl g3)))]
    repeat' (first|refine X.O ?_|refine X.A ?_|refine X.B ?_|refine X.C ?_|refine X.D ?_|refine X.E ?_|refine X.F ?_|refine X.G ?_|refine X.H ?_|refine X.I ?_|fail)
    refine ⟨_, ret2 rfl (by rfl) (by rfl), ?_⟩
    exact ⟨rfl, hb4⟩
  have hsn : neg = true ↔ sg < 0 := by rw [← hsg]; cases neg <;> simp
  have fin : ¬ (P = 0 ∧ neg = true) → ¬ (2 < rest.length + 1 ∨ P < 0 ∨ q < 1 ∨ (P = 0 ∧ neg = true)) := fun h => by
    rintro (h1 | h1 | h1 | h1)
    · omega
    · omega
    · omega
    · exact h h1
  have hsg1 : sg = 1 ∨ sg = -1 := by rw [← hsg]; cases neg <;> simp
  repeat' (first|refine X.O ?_|refine X.A ?_|refine X.B ?_|refine X.C ?_|refine X.D ?_|refine X.E ?_|refine X.F ?_|refine X.G ?_|refine X.H ?_|refine X.I ?_|fail)
  refine WL.gsplitD (by rfl) (by rfl) (by rfl) (fun g4 => ?_) (fun g4 => ?_)
  · repeat' (first|refine X.O ?_|refine X.A ?_|refine X.B ?_|refine X.C ?_|refine X.D ?_|refine X.E ?_|refine X.F ?_|refine X.G ?_|refine X.H ?_|refine X.I ?_|fail)
    first|refine X.J (fun _ => ?_) (fun _ => ?_)|refine X.L (fun _ => ?_) (fun _ => ?_)|refine X.M (fun _ => ?_) (fun _ => ?_)|refine X.R (fun _ => ?_) (fun _ => ?_)|fail
    · rename_i g5
      rw [if_pos (Or.inr (Or.inr (Or.inr ⟨g4, hsn.2 g5⟩)))]
      repeat' (first|refine X.O ?_|refine X.A ?_|refine X.B ?_|refine X.C ?_|refine X.D ?_|refine X.E ?_|refine X.F ?_|refine X.G ?_|refine X.H ?_|refine X.I ?_|fail)
      refine ⟨_, ret2 rfl (by rfl) (by rfl), ?_⟩
      exact ⟨rfl, hb4⟩
    · rename_i g5
      rw [if_neg (fin fun h => g5 (hsn.1 h.2))]
      repeat' (first|refine X.O ?_|refine X.A ?_|refine X.B ?_|refine X.C ?_|refine X.D ?_|refine X.E ?_|refine X.F ?_|refine X.G ?_|refine X.H ?_|refine X.I ?_|fail)
      refine WL.step (o_rem (by rfl) (by rfl) (by omega) ?_)
      repeat' (first|refine X.O ?_|refine X.A ?_|refine X.B ?_|refine X.C ?_|refine X.D ?_|refine X.E ?_|refine X.F ?_|refine X.G ?_|refine X.H ?_|refine X.I ?_|fail)
      first|refine X.J (fun _ => ?_) (fun _ => ?_)|refine X.L (fun _ => ?_) (fun _ => ?_)|refine X.M (fun _ => ?_) (fun _ => ?_)|refine X.R (fun _ => ?_) (fun _ => ?_)|fail
      · rename_i g6
        rw [if_pos g6]
        repeat' (first|refine X.O ?_|refine X.A ?_|refine X.B ?_|refine X.C ?_|refine X.D ?_|refine X.E ?_|refine X.F ?_|refine X.G ?_|refine X.H ?_|refine X.I ?_|fail)
        refine ⟨_, ret2 rfl (by rfl) (by rfl), ?_⟩
        exact ⟨rfl, hb4⟩
      · rename_i g6
        rw [if_neg g6]
        repeat' (first|refine X.O ?_|refine X.A ?_|refine X.B ?_|refine X.C ?_|refine X.D ?_|refine X.E ?_|refine X.F ?_|refine X.G ?_|refine X.H ?_|refine X.I ?_|fail)
        refine WL.step (o_mul (by rfl) (by rfl) (by rcases hsg1 with h | h <;> rw [h] <;> unfold InI <;> omega) ?_)
        repeat' (first|refine X.O ?_|refine X.A ?_|refine X.B ?_|refine X.C ?_|refine X.D ?_|refine X.E ?_|refine X.F ?_|refine X.G ?_|refine X.H ?_|refine X.I ?_|fail)
        refine WL.call (l01Frac_any _ _ _) ?_
        rintro _ _ ⟨rfl, rfl⟩
        repeat' (first|refine X.O ?_|refine X.A ?_|refine X.B ?_|refine X.C ?_|refine X.D ?_|refine X.E ?_|refine X.F ?_|refine X.G ?_|refine X.H ?_|refine X.I ?_|fail)
        refine ⟨_, ret2 rfl (by rfl) (by rfl), ?_⟩
        exact ⟨rfl, hb4⟩
  · rw [if_neg (fin fun h => g4 h.1)]
    repeat' (first|refine X.O ?_|refine X.A ?_|refine X.B ?_|refine X.C ?_|refine X.D ?_|refine X.E ?_|refine X.F ?_|refine X.G ?_|refine X.H ?_|refine X.I ?_|fail)
    refine WL.step (o_rem (by rfl) (by rfl) (by omega) ?_)
    repeat' (first|refine X.O ?_|refine X.A ?_|refine X.B ?_|refine X.C ?_|refine X.D ?_|refine X.E ?_|refine X.F ?_|refine X.G ?_|refine X.H ?_|refine X.I ?_|fail)
    first|refine X.J (fun _ => ?_) (fun _ => ?_)|refine X.L (fun _ => ?_) (fun _ => ?_)|refine X.M (fun _ => ?_) (fun _ => ?_)|refine X.R (fun _ => ?_) (fun _ => ?_)|fail
    · rename_i g6
      rw [if_pos g6]
      repeat' (first|refine X.O ?_|refine X.A ?_|refine X.B ?_|refine X.C ?_|refine X.D ?_|refine X.E ?_|refine X.F ?_|refine X.G ?_|refine X.H ?_|refine X.I ?_|fail)
      refine ⟨_, ret2 rfl (by rfl) (by rfl), ?_⟩
      exact ⟨rfl, hb4⟩
    · rename_i g6
      rw [if_neg g6]
      repeat' (first|refine X.O ?_|refine X.A ?_|refine X.B ?_|refine X.C ?_|refine X.D ?_|refine X.E ?_|refine X.F ?_|refine X.G ?_|refine X.H ?_|refine X.I ?_|fail)
      refine WL.step (o_mul (by rfl) (by rfl) (by rcases hsg1 with h | h <;> rw [h] <;> unfold InI <;> omega) ?_)
      repeat' (first|refine X.O ?_|refine X.A ?_|refine X.B ?_|refine X.C ?_|refine X.D ?_|refine X.E ?_|refine X.F ?_|refine X.G ?_|refine X.H ?_|refine X.I ?_|fail)
      refine WL.call (l01Frac_any _ _ _) ?_
      rintro _ _ ⟨rfl, rfl⟩
      repeat' (first|refine X.O ?_|refine X.A ?_|refine X.B ?_|refine X.C ?_|refine X.D ?_|refine X.E ?_|refine X.F ?_|refine X.G ?_|refine X.H ?_|refine X.I ?_|fail)
      refine ⟨_, ret2 rfl (by rfl) (by rfl), ?_⟩
      exact ⟨rfl, hb4⟩
end Go.Proofs
