/- The program's ParseNumber, walked. -/
import Derived.Test.YthepgmajeljdhaaGreatDoorZ9
import Derived.Test.YthepgmajeljdhaaGreatDoorZG
set_option maxRecDepth 8000
namespace Go.Proofs
open Go Go.Fw Go.RowKit Go.Rk
/-- bytealg.MaxLen holds some int. -/
def ML (w : World) : Prop := ∃ m : Int, w.cell? ⟨0, 0, none⟩ = some (.int .i64 m)
theorem ML.below {w w' : World} (h : ML w) (hb : Below w.heap.size w w') : ML w' := by
  obtain ⟨m, h⟩ := h
  exact ⟨m, cell_below h hb⟩
theorem Cut_any (s : List UInt8) (b : UInt8) (hs : s.length ≤ 4000000000) {w : World} (h : ML w) : Does Tryz.prog 34 [St s, St [b]] w fun r w' => r = .tuple #[St (Lib.cut s [b]).1, St (Lib.cut s [b]).2.1, .bool (Lib.cut s [b]).2.2] ∧ Still w w' := by
  obtain ⟨m, hm⟩ := h
  refine Calls.mono (Tryz.strings_Cut ⟨s.toArray⟩ ⟨[b].toArray⟩ m w (by simp [ByteArray.size]; omega) hm) ?_
  rintro e w' ⟨rfl, n, rfl⟩
  exact ⟨_, rfl, rfl, ⟨rfl, rfl, rfl, rfl⟩⟩
theorem CutDash_any (s : List UInt8) (w : World) : Does Tryz.prog 91 [St s, St [45]] w fun r w' => r = .tuple #[St (bodyL s), .bool (negL s)] ∧ w' = w := by
  refine Calls.mono (Tryz.strings_CutPrefix ⟨s.toArray⟩ ⟨[45].toArray⟩ w) ?_
  rintro e w' ⟨rfl, rfl⟩
  refine ⟨_, rfl, ?_, rfl⟩
  have e1 : Lib.hasPrefix s [45] = negL s := by
    unfold Lib.hasPrefix negL
    cases s with
    | nil => rfl
    | cons c r =>
      by_cases h : c = 45
      · subst h; rfl
      · have h1 : ((45 : UInt8) == c) = false := beq_eq_false_iff_ne.2 fun e => h e.symm
        have h2 : (some c == some (45 : UInt8)) = false := beq_eq_false_iff_ne.2 fun e => h (Option.some.inj e)
        rw [List.isPrefixOf, h1, List.getElem?_cons_zero, h2]; rfl
  have e2 : Lib.trimPrefix s [45] = bodyL s := by unfold Lib.trimPrefix bodyL; rw [e1]; rfl
  show Value.tuple #[.string ⟨(Lib.trimPrefix s [45]).toArray⟩, .bool (Lib.hasPrefix s [45])] = _
  rw [e1, e2]
/-- The library's variables: the powers of ten, the two errors, MaxLen. -/
structure SW (w : World) : Prop where
  t10 : T10 w
  ev : EV w
  ml : ML w
theorem SW.below {w w' : World} (h : SW w) (hb : Below w.heap.size w w') : SW w' := ⟨h.t10.below hb, h.ev.below hb, h.ml.below hb⟩
theorem SW.still {w w' : World} (h : SW w) (hb : Still w w') : SW w' := h.below (hb.below _)
theorem ParseNumber_any (t : List UInt8) (ht : t.length ≤ 4000000000) {w : World} (hS : SW w) : Does Tryz.prog 64 [St t] w fun r w' => r = .tuple #[.int .i64 (parseNum t).1, .int .i64 (parseNum t).2] ∧ Below w.heap.size w w' := by
  have hbl := body_length t
  refine Does.enter Tryz.func64 Tryz.ntmps64 rfl (by rfl) ?_
  repeat' (first|refine X.O ?_|refine X.A ?_|refine X.B ?_|refine X.C ?_|refine X.D ?_|refine X.E ?_|refine X.F ?_|refine X.G ?_|refine X.H ?_|refine X.I ?_|fail)
  refine WL.call (CutDash_any t w) ?_
  rintro _ w ⟨rfl, rfl⟩
  repeat' (first|refine X.O ?_|refine X.A ?_|refine X.B ?_|refine X.C ?_|refine X.D ?_|refine X.E ?_|refine X.F ?_|refine X.G ?_|refine X.H ?_|refine X.I ?_|fail)
  refine WL.call (Cut_any (bodyL t) 47 (by omega) hS.ml) ?_
  rintro _ w1 ⟨rfl, hs1⟩
  have hS1 := hS.still hs1
  obtain ⟨u, v, d, hcut, hu, hv, hfin⟩ : ∃ u v d, Lib.cut (bodyL t) [47] = (u, v, d) ∧ u.length ≤ t.length ∧ v.length ≤ t.length ∧ parseNum t = finP (valueL u) (if d = true then valueL v else 1) (negL t) := by
    rcases parse_cut t with ⟨h1, h2⟩ | ⟨u, v, h1, h2⟩
    · exact ⟨_, _, _, h1, hbl, Nat.zero_le _, h2⟩
    · have := cut_length h1
      exact ⟨u, v, true, h1, by omega, by omega, h2⟩
  rw [hcut, hfin]
  have hpb := value_le u
  have hvb := value_le v
  obtain ⟨p, hp0⟩ : ∃ p, valueL u = p := ⟨_, rfl⟩
  obtain ⟨q, hq0⟩ : ∃ q, (if d = true then valueL v else 1) = q := ⟨_, rfl⟩
  have hqb : q ≤ 999999999 := by rw [← hq0]; split <;> omega
  obtain ⟨neg, hneg⟩ : ∃ neg, negL t = neg := ⟨_, rfl⟩
  rw [hp0, hq0, hneg]
  rw [hp0] at hpb
  repeat' (first|refine X.O ?_|refine X.A ?_|refine X.B ?_|refine X.C ?_|refine X.D ?_|refine X.E ?_|refine X.F ?_|refine X.G ?_|refine X.H ?_|refine X.I ?_|fail)
  refine WL.call (readDecimal_any u (by omega) hS1.t10 hS1.ev) ?_
  rintro _ w2 ⟨rfl, hb2⟩
  have hb02 := (hs1.below w.heap.size).trans (Below.mono hb2 (by have := hs1.size; omega))
  have hS2 := hS1.below hb2
  have hz2 := hb02.size
  rw [hp0]
  repeat' (first|refine X.O ?_|refine X.A ?_|refine X.B ?_|refine X.C ?_|refine X.D ?_|refine X.E ?_|refine X.F ?_|refine X.G ?_|refine X.H ?_|refine X.I ?_|fail)
  refine WP.mid (fun l' y => Agree l' [(5, .bool neg), (9, .int .i64 (if 0 ≤ p then p else 0)), (10, .bool (decide (0 ≤ p))), (11, .int .i64 (if 0 ≤ q then q else 0)), (12, .bool (decide (0 ≤ q)))] ∧ Below w.heap.size w y) ?_ ?_
  · cases d with
    | false =>
      rw [if_neg (by simp)] at hq0
      subst hq0
      repeat' (first|refine X.O ?_|refine X.A ?_|refine X.B ?_|refine X.C ?_|refine X.D ?_|refine X.E ?_|refine X.F ?_|refine X.G ?_|refine X.H ?_|refine X.I ?_|fail)
      exact ⟨⟨rfl, rfl, rfl, rfl, rfl, trivial⟩, hb02⟩
    | true =>
      rw [if_pos rfl] at hq0
      repeat' (first|refine X.O ?_|refine X.A ?_|refine X.B ?_|refine X.C ?_|refine X.D ?_|refine X.E ?_|refine X.F ?_|refine X.G ?_|refine X.H ?_|refine X.I ?_|fail)
      refine WL.call (readDecimal_any v (by omega) hS2.t10 hS2.ev) ?_
      rintro _ w3 ⟨rfl, hb3⟩
      rw [hq0]
      repeat' (first|refine X.O ?_|refine X.A ?_|refine X.B ?_|refine X.C ?_|refine X.D ?_|refine X.E ?_|refine X.F ?_|refine X.G ?_|refine X.H ?_|refine X.I ?_|fail)
      exact ⟨⟨rfl, rfl, rfl, rfl, rfl, trivial⟩, hb02.trans (Below.mono hb3 hz2)⟩
  rintro l' y ⟨hag, hb⟩
  refine WP.frame _ hag ?_
  clear hag
  have hzy := hb.size
  unfold finP
  by_cases hp : 0 ≤ p
  case neg =>
    rw [if_neg hp, show decide (0 ≤ p) = false from decide_eq_false hp, if_pos (Or.inl (by omega))]
    repeat' (first|refine X.O ?_|refine X.A ?_|refine X.B ?_|refine X.C ?_|refine X.D ?_|refine X.E ?_|refine X.F ?_|refine X.G ?_|refine X.H ?_|refine X.I ?_|fail)
    refine ⟨_, ret2 rfl (by rfl) (by rfl), ?_⟩
    exact ⟨rfl, hb⟩
  rw [if_pos hp, show decide (0 ≤ p) = true from decide_eq_true hp]
  by_cases hq : 0 ≤ q
  case neg =>
    rw [if_neg hq, show decide (0 ≤ q) = false from decide_eq_false hq, if_pos (Or.inr (Or.inl (by omega)))]
    repeat' (first|refine X.O ?_|refine X.A ?_|refine X.B ?_|refine X.C ?_|refine X.D ?_|refine X.E ?_|refine X.F ?_|refine X.G ?_|refine X.H ?_|refine X.I ?_|fail)
    refine ⟨_, ret2 rfl (by rfl) (by rfl), ?_⟩
    exact ⟨rfl, hb⟩
  rw [if_pos hq, show decide (0 ≤ q) = true from decide_eq_true hq]
  repeat' (first|refine X.O ?_|refine X.A ?_|refine X.B ?_|refine X.C ?_|refine X.D ?_|refine X.E ?_|refine X.F ?_|refine X.G ?_|refine X.H ?_|refine X.I ?_|fail)
  refine WL.gsplitD (by rfl) (by rfl) (by rfl) (fun g3 => ?_) (fun g3 => ?_)
  · rw [if_pos (Or.inr (Or.inl g3))]
    repeat' (first|refine X.O ?_|refine X.A ?_|refine X.B ?_|refine X.C ?_|refine X.D ?_|refine X.E ?_|refine X.F ?_|refine X.G ?_|refine X.H ?_|refine X.I ?_|fail)
    refine ⟨_, ret2 rfl (by rfl) (by rfl), ?_⟩
    exact ⟨rfl, hb⟩
  have fin (p' : Int) : Value.tuple #[.int .i64 (if q.tmod 10007 = 0 then 0 else nm (nm p' * powN (nm q) 10005)), .int .i64 (if q.tmod 10007 = 0 then 5 else 0)] = .tuple #[.int .i64 (if q.tmod 10007 = 0 then ((0 : Int), (5 : Int)) else (nm (nm p' * powN (nm q) 10005), 0)).1, .int .i64 (if q.tmod 10007 = 0 then ((0 : Int), (5 : Int)) else (nm (nm p' * powN (nm q) 10005), 0)).2] := by
    split <;> rfl
  cases neg with
  | false =>
    rw [if_neg (by rintro (h | h | ⟨_, h⟩); omega; exact g3 h; cases h), if_neg Bool.false_ne_true, Int.one_mul]
    repeat' (first|refine X.O ?_|refine X.A ?_|refine X.B ?_|refine X.C ?_|refine X.D ?_|refine X.E ?_|refine X.F ?_|refine X.G ?_|refine X.H ?_|refine X.I ?_|fail)
    refine WL.call (NumberOf_all p q ⟨by omega, by omega⟩ ⟨by omega, by omega⟩ _) ?_
    rintro _ w5 ⟨rfl, hs5⟩
    repeat' (first|refine X.O ?_|refine X.A ?_|refine X.B ?_|refine X.C ?_|refine X.D ?_|refine X.E ?_|refine X.F ?_|refine X.G ?_|refine X.H ?_|refine X.I ?_|fail)
    refine ⟨_, ret2 rfl (by rfl) (by rfl), ?_⟩
    exact ⟨fin p, hb.trans (hs5.below _)⟩
  | true =>
    repeat' (first|refine X.O ?_|refine X.A ?_|refine X.B ?_|refine X.C ?_|refine X.D ?_|refine X.E ?_|refine X.F ?_|refine X.G ?_|refine X.H ?_|refine X.I ?_|fail)
    first|refine X.J (fun _ => ?_) (fun _ => ?_)|refine X.L (fun _ => ?_) (fun _ => ?_)|refine X.M (fun _ => ?_) (fun _ => ?_)|refine X.R (fun _ => ?_) (fun _ => ?_)|fail
    · rename_i g4
      rw [if_pos (Or.inr (Or.inr ⟨g4, rfl⟩))]
      repeat' (first|refine X.O ?_|refine X.A ?_|refine X.B ?_|refine X.C ?_|refine X.D ?_|refine X.E ?_|refine X.F ?_|refine X.G ?_|refine X.H ?_|refine X.I ?_|fail)
      refine ⟨_, ret2 rfl (by rfl) (by rfl), ?_⟩
      exact ⟨rfl, hb⟩
    · rename_i g4
      rw [if_neg (by rintro (h | h | ⟨h, _⟩); omega; exact g3 h; exact g4 h), if_pos (rfl : true = true), show (-1 : Int) * p = -p by omega]
      repeat' (first|refine X.O ?_|refine X.A ?_|refine X.B ?_|refine X.C ?_|refine X.D ?_|refine X.E ?_|refine X.F ?_|refine X.G ?_|refine X.H ?_|refine X.I ?_|fail)
      refine WL.step (o_neg (by rfl) (by unfold InI; omega) ?_)
      repeat' (first|refine X.O ?_|refine X.A ?_|refine X.B ?_|refine X.C ?_|refine X.D ?_|refine X.E ?_|refine X.F ?_|refine X.G ?_|refine X.H ?_|refine X.I ?_|fail)
      refine WL.call (NumberOf_all (-p) q ⟨by omega, by omega⟩ ⟨by omega, by omega⟩ _) ?_
      rintro _ w5 ⟨rfl, hs5⟩
      repeat' (first|refine X.O ?_|refine X.A ?_|refine X.B ?_|refine X.C ?_|refine X.D ?_|refine X.E ?_|refine X.F ?_|refine X.G ?_|refine X.H ?_|refine X.I ?_|fail)
      refine ⟨_, ret2 rfl (by rfl) (by rfl), ?_⟩
      exact ⟨fin (-p), hb.trans (hs5.below _)⟩
end Go.Proofs
