/- Strings and slices of strings in the laws. -/
import Derived.Test.YthdopepmndoamaaH5
import Derived.Laws.BytesArg
import Derived.Laws.Concat
import Derived.Laws.Strings
namespace Go.Fw
open Go Go.RowKit

theorem wrap_u8 {a : Int} (h0 : 0 ≤ a) (h1 : a ≤ 255) : IntKind.u8.wrap a = a := by
  simp only [IntKind.wrap, IntKind.bits, IntKind.signed]
  have : a % 256 = a := by omega
  simp [this]

section
variable {P : Program} {N : Nat} {Q : Exit → Fr → World → Prop} {S : World → Prop} {l : Fr} {w : World} {ops : Array Oper} {K : Fr → World → Prop}
variable {d : Nat} {ty : TypeId} {pos : String} {af : Array Edge} {g : Option (Nat × Bool)}
theorem o_convU8 {t u : TypeId} [h1 : IntTy P t .i64] [h2 : IntTy P u .u8] {x : Operand} {a : Int} (hx : ev l x = some (.int .i64 a)) (h0 : 0 ≤ a) (h3 : a ≤ 255) (k : K ((d, .int .u8 a) :: l) w)
    (hg : wantedL ops l g = some true := by rfl) (hd : Nat.blt d N = true := by rfl) : OpW P N ops Q ⟨some d, .convert t u x, ty, pos, af, g⟩ l w K :=
  OpW.val (fun fr ha => by simp [execOp, ha.ev hx, convert, run_underlying h1.und, run_underlying h2.und, Conv.intToInt, wrap_u8 h0 h3]) k hg hd
theorem o_convS {t e u : TypeId} {z : Value} {bytes lo : Nat} [h1 : SliceTy P t e z bytes] [h2 : IntTy P e .u8] [h3 : StrTy P u] {x : Operand} {v : Value} {c : Int} (hx : ev l x = some v) (hown : Own lo e w v [.int .u8 c]) (k : K ((d, .string (strOfNums [c])) :: l) w)
    (hg : wantedL ops l g = some true := by rfl) (hd : Nat.blt d N = true := by rfl) : OpW P N ops Q ⟨some d, .convert t u x, ty, pos, af, g⟩ l w K := by
  obtain ⟨g', c', rfl, _, _, hcell, _⟩ := hown.cell (i := 0) (u := .int .u8 c) rfl
  have hr := run_convert_bytes_arg (P := P) w t e h1.und h2.und g' 0 1 c' [c] rfl (fun i hi => by
    have : i = 0 := by omega
    subst this
    simpa using hcell) u h3.und
  exact OpW.val (fun fr ha => by simp only [execOp, ha.ev hx, Sem.run_bind]; rw [show ([Value.int IntKind.u8 c] : List Value).length = 1 from rfl, hr]; simp) k hg hd
theorem o_addS {x y : Operand} {t t' : TypeId} {a b : ByteArray} (hx : ev l x = some (.string a)) (hy : ev l y = some (.string b)) (hb : a.size + b.size ≤ 9223372036854775807) (k : K ((d, .string (a ++ b)) :: l) w)
    (hg : wantedL ops l g = some true := by rfl) (hd : Nat.blt d N = true := by rfl) : OpW P N ops Q ⟨some d, .binOp .add t x y t', ty, pos, af, g⟩ l w K :=
  OpW.val (fun fr ha => by simp [execOp, ha.ev hx, ha.ev hy, eqGuard, binOp_string_add, run_string_add_sum w a b hb]) k hg hd
/-- a != b of two equal strings. -/
theorem q_neqS {t t' : TypeId} [StrTy P t] {x y : Operand} {a : ByteArray} (hx : ev l x = some (.string a)) (hy : ev l y = some (.string a))
    (hg : wantedL ops l g = some true := by rfl) (hd : Nat.blt d N = true := by rfl) : QW P N ops S ⟨some d, .binOp .neq t x y t', ty, pos, af, g⟩ l d (.bool false) :=
  QW.mk (fun fr ha w _ => by simp [execOp, ha.ev hx, ha.ev hy, binOp, eqGuard, Op.stringOp]) hg hd
end

def RV (_ _ : Nat) (_ : World) (u : Value) (x : Value) : Prop := u = x
theorem RV.stable : Stable RV := ⟨fun _ _ _ _ _ _ _ _ h => h, fun _ _ _ _ _ _ _ _ _ _ h => h⟩
abbrev VS := SL RV
/-- A slice that the call owns, in the blocks from lo on, below hi. -/
structure OwV (e : TypeId) (lo hi : Nat) (w : World) (v : Value) (us : List Value) : Prop where
  own : Own lo e w v us
  lt : ∀ k, v.ownBlock = some k → k < hi
  hi_le : hi ≤ w.heap.size
theorem OwV.chg {e : TypeId} {lo hi a b : Nat} {w w' : World} {v : Value} {us : List Value} (h : OwV e lo hi w v us) (hc : Chg a b w w') (hd : hi ≤ a ∨ b ≤ lo) : OwV e lo hi w' v us :=
  ⟨h.own.keep fun k hk => hc.same h.hi_le hd k (h.own.block k hk).1 (h.lt k hk), h.lt, Nat.le_trans h.hi_le hc.size⟩
theorem OwV.rd {e : TypeId} {lo hi : Nat} {w : World} {v : Value} {us : List Value} (h : OwV e lo hi w v us) : VS lo hi w v us :=
  h.own.toSL rfl (Nat.le_refl _) h.lt h.hi_le fun i u x hu hx => by rw [hu] at hx; simpa [RV] using hx
end Go.Fw

namespace Go.Proofs
open Go Go.Fw Go.RowKit
/-- The text of a mark: the digits in front of acc. -/
def mtGo (n : Nat) (acc : ByteArray) : ByteArray := if h : n = 0 then acc else mtGo (n / 10) (strOfNums [48 + ((n % 10 : Nat) : Int)] ++ acc)
termination_by n
decreasing_by omega
theorem mtGo_zero (acc : ByteArray) : mtGo 0 acc = acc := by rw [mtGo]; rfl
theorem mtGo_step {n : Nat} (h : n ≠ 0) (acc : ByteArray) : mtGo n acc = mtGo (n / 10) (strOfNums [48 + ((n % 10 : Nat) : Int)] ++ acc) := by rw [mtGo, dif_neg h]
def mt (n : Nat) : ByteArray := ⟨#[109]⟩ ++ mtGo n ⟨#[]⟩
theorem tmod10 (e : Nat) : ((e : Nat) : Int).tmod 10 = ((e % 10 : Nat) : Int) := by rw [Int.tmod_eq_emod_of_nonneg (by omega)]; omega
theorem tdiv10 (e : Nat) : ((e : Nat) : Int).tdiv 10 = ((e / 10 : Nat) : Int) := by rw [Int.tdiv_eq_ediv_of_nonneg (by omega)]; omega

theorem markText_any (n : Nat) (h0 : 1 ≤ n) (h1 : n ≤ 4611686018427387904) (w : World) : Does Try.prog 51 [.int .i64 (n : Nat)] w fun r w' => r = .string (mt n) ∧ Below w.heap.size w w' := by
  refine Does.enter Try.func51 Try.ntmps51 rfl (by rfl) ?_
  repeat' (first | refine WL.step (o_s (by rfl) ?_) | refine WL.step (o_len (by rfl) ?_) | refine WL.step (o_add (by rfl) (by rfl) (by unfold InI; omega) ?_) | refine WL.step (o_sub (by rfl) (by rfl) (by unfold InI; omega) ?_) | refine WL.step (OpW.pass (by rfl) ?_) | refine WL.nil ?_ | refine thenN ?_ | refine WP.region ?_ | refine WP.seq ?_ | refine WP.block ?_ | refine thenR ?_ | refine thenX ?_ | refine blkN ?_ | refine blkHit ?_ | refine blkR ?_ | refine blkMiss (by rfl) ?_ | refine WP.ret ?_ | refine WP.exit ?_ | refine WP.skip ?_ | refine WP.label ?_ | refine WP.condT (by rfl) ?_ | refine WP.condF (by rfl) ?_ | fail)
  first | refine WP.condD (by rfl) (fun _ => ?_) (fun _ => ?_) | refine WP.condND (by rfl) (fun _ => ?_) (fun _ => ?_) | refine WP.condN (by rfl) (fun _ => ?_) (fun _ => ?_) | refine WP.cond (by rfl) (fun _ => ?_) (fun _ => ?_) | fail
  · rename_i hbad; omega
  rename_i hpos
  repeat' (first | refine WL.step (o_s (by rfl) ?_) | refine WL.step (o_len (by rfl) ?_) | refine WL.step (o_add (by rfl) (by rfl) (by unfold InI; omega) ?_) | refine WL.step (o_sub (by rfl) (by rfl) (by unfold InI; omega) ?_) | refine WL.step (OpW.pass (by rfl) ?_) | refine WL.nil ?_ | refine thenN ?_ | refine WP.region ?_ | refine WP.seq ?_ | refine WP.block ?_ | refine thenR ?_ | refine thenX ?_ | refine blkN ?_ | refine blkHit ?_ | refine blkR ?_ | refine blkMiss (by rfl) ?_ | refine WP.ret ?_ | refine WP.exit ?_ | refine WP.skip ?_ | refine WP.label ?_ | refine WP.condT (by rfl) ?_ | refine WP.condF (by rfl) ?_ | fail)
  refine WP.loop (fun (s : Nat × ByteArray) => [(0, .int .i64 (s.1 : Nat)), (3, .string s.2)])
    (fun s w2 => s.2.size + s.1 ≤ n ∧ mtGo n ⟨#[]⟩ = mtGo s.1 s.2 ∧ Below w.heap.size w w2)
    (fun s => s.1) (n, ⟨#[]⟩) ⟨rfl, rfl, trivial⟩ ⟨by simp [ByteArray.size], rfl, Below.refl _ _⟩ ?_
  rintro ⟨m, acc⟩ w2 ⟨hsz, hq, hb⟩
  dsimp only at hsz hq ⊢
  have hz := hb.size
  repeat' (first | refine WL.step (o_s (by rfl) ?_) | refine WL.step (o_len (by rfl) ?_) | refine WL.step (o_add (by rfl) (by rfl) (by unfold InI; omega) ?_) | refine WL.step (o_sub (by rfl) (by rfl) (by unfold InI; omega) ?_) | refine WL.step (OpW.pass (by rfl) ?_) | refine WL.nil ?_ | refine thenN ?_ | refine WP.region ?_ | refine WP.seq ?_ | refine WP.block ?_ | refine thenR ?_ | refine thenX ?_ | refine blkN ?_ | refine blkHit ?_ | refine blkR ?_ | refine blkMiss (by rfl) ?_ | refine WP.ret ?_ | refine WP.exit ?_ | refine WP.skip ?_ | refine WP.label ?_ | refine WP.condT (by rfl) ?_ | refine WP.condF (by rfl) ?_ | fail)
  first | refine WP.condD (by rfl) (fun _ => ?_) (fun _ => ?_) | refine WP.condND (by rfl) (fun _ => ?_) (fun _ => ?_) | refine WP.condN (by rfl) (fun _ => ?_) (fun _ => ?_) | refine WP.cond (by rfl) (fun _ => ?_) (fun _ => ?_) | fail
  · rename_i hlt
    have hm0 : m ≠ 0 := by omega
    rw [mtGo_step hm0] at hq
    repeat' (first | refine WL.step (o_s (by rfl) ?_) | refine WL.step (o_len (by rfl) ?_) | refine WL.step (o_add (by rfl) (by rfl) (by unfold InI; omega) ?_) | refine WL.step (o_sub (by rfl) (by rfl) (by unfold InI; omega) ?_) | refine WL.step (OpW.pass (by rfl) ?_) | refine WL.nil ?_ | refine thenN ?_ | refine WP.region ?_ | refine WP.seq ?_ | refine WP.block ?_ | refine thenR ?_ | refine thenX ?_ | refine blkN ?_ | refine blkHit ?_ | refine blkR ?_ | refine blkMiss (by rfl) ?_ | refine WP.ret ?_ | refine WP.exit ?_ | refine WP.skip ?_ | refine WP.label ?_ | refine WP.condT (by rfl) ?_ | refine WP.condF (by rfl) ?_ | fail)
    refine WL.step (o_rem (by rfl) (by rfl) (by decide) ?_)
    rw [tmod10]
    repeat' (first | refine WL.step (o_s (by rfl) ?_) | refine WL.step (o_len (by rfl) ?_) | refine WL.step (o_add (by rfl) (by rfl) (by unfold InI; omega) ?_) | refine WL.step (o_sub (by rfl) (by rfl) (by unfold InI; omega) ?_) | refine WL.step (OpW.pass (by rfl) ?_) | refine WL.nil ?_ | refine thenN ?_ | refine WP.region ?_ | refine WP.seq ?_ | refine WP.block ?_ | refine thenR ?_ | refine thenX ?_ | refine blkN ?_ | refine blkHit ?_ | refine blkR ?_ | refine blkMiss (by rfl) ?_ | refine WP.ret ?_ | refine WP.exit ?_ | refine WP.skip ?_ | refine WP.label ?_ | refine WP.condT (by rfl) ?_ | refine WP.condF (by rfl) ?_ | fail)
    refine WL.step (o_convU8 (by rfl) (by omega) (by omega) ?_)
    refine WL.step (o_lit (us := [.int .u8 _]) (by rfl) (by rfl) rfl (by decide) (one1 rfl) ?_)
    intro v3 w3 hown3 hbl3 hz3 _
    refine WL.step (o_convS (by rfl) hown3 ?_)
    repeat' (first | refine WL.step (o_s (by rfl) ?_) | refine WL.step (o_len (by rfl) ?_) | refine WL.step (o_add (by rfl) (by rfl) (by unfold InI; omega) ?_) | refine WL.step (o_sub (by rfl) (by rfl) (by unfold InI; omega) ?_) | refine WL.step (OpW.pass (by rfl) ?_) | refine WL.nil ?_ | refine thenN ?_ | refine WP.region ?_ | refine WP.seq ?_ | refine WP.block ?_ | refine thenR ?_ | refine thenX ?_ | refine blkN ?_ | refine blkHit ?_ | refine blkR ?_ | refine blkMiss (by rfl) ?_ | refine WP.ret ?_ | refine WP.exit ?_ | refine WP.skip ?_ | refine WP.label ?_ | refine WP.condT (by rfl) ?_ | refine WP.condF (by rfl) ?_ | fail)
    refine WL.step (o_addS (by rfl) (by rfl) (by rw [strOfNums_size]; simp; omega) ?_)
    repeat' (first | refine WL.step (o_s (by rfl) ?_) | refine WL.step (o_len (by rfl) ?_) | refine WL.step (o_add (by rfl) (by rfl) (by unfold InI; omega) ?_) | refine WL.step (o_sub (by rfl) (by rfl) (by unfold InI; omega) ?_) | refine WL.step (OpW.pass (by rfl) ?_) | refine WL.nil ?_ | refine thenN ?_ | refine WP.region ?_ | refine WP.seq ?_ | refine WP.block ?_ | refine thenR ?_ | refine thenX ?_ | refine blkN ?_ | refine blkHit ?_ | refine blkR ?_ | refine blkMiss (by rfl) ?_ | refine WP.ret ?_ | refine WP.exit ?_ | refine WP.skip ?_ | refine WP.label ?_ | refine WP.condT (by rfl) ?_ | refine WP.condF (by rfl) ?_ | fail)
    refine WL.step (o_quo (by rfl) (by rfl) (by decide) (by rw [tdiv10]; unfold InI; omega) ?_)
    rw [tdiv10]
    repeat' (first | refine WL.step (o_s (by rfl) ?_) | refine WL.step (o_len (by rfl) ?_) | refine WL.step (o_add (by rfl) (by rfl) (by unfold InI; omega) ?_) | refine WL.step (o_sub (by rfl) (by rfl) (by unfold InI; omega) ?_) | refine WL.step (OpW.pass (by rfl) ?_) | refine WL.nil ?_ | refine thenN ?_ | refine WP.region ?_ | refine WP.seq ?_ | refine WP.block ?_ | refine thenR ?_ | refine thenX ?_ | refine blkN ?_ | refine blkHit ?_ | refine blkR ?_ | refine blkMiss (by rfl) ?_ | refine WP.ret ?_ | refine WP.exit ?_ | refine WP.skip ?_ | refine WP.label ?_ | refine WP.condT (by rfl) ?_ | refine WP.condF (by rfl) ?_ | fail)
    exact ⟨(m / 10, strOfNums [48 + ((m % 10 : Nat) : Int)] ++ acc), ⟨rfl, rfl, trivial⟩, ⟨by dsimp only; rw [ByteArray.size_append, strOfNums_size]; simp; omega, hq, hb.trans (Below.mono hbl3 (by omega))⟩, by dsimp only; omega⟩
  · rename_i hge
    have : m = 0 := by omega
    subst this
    rw [mtGo_zero] at hq
    repeat' (first | refine WL.step (o_s (by rfl) ?_) | refine WL.step (o_len (by rfl) ?_) | refine WL.step (o_add (by rfl) (by rfl) (by unfold InI; omega) ?_) | refine WL.step (o_sub (by rfl) (by rfl) (by unfold InI; omega) ?_) | refine WL.step (OpW.pass (by rfl) ?_) | refine WL.nil ?_ | refine thenN ?_ | refine WP.region ?_ | refine WP.seq ?_ | refine WP.block ?_ | refine thenR ?_ | refine thenX ?_ | refine blkN ?_ | refine blkHit ?_ | refine blkR ?_ | refine blkMiss (by rfl) ?_ | refine WP.ret ?_ | refine WP.exit ?_ | refine WP.skip ?_ | refine WP.label ?_ | refine WP.condT (by rfl) ?_ | refine WP.condF (by rfl) ?_ | fail)
    refine WL.step (o_addS (by rfl) (by rfl) (by show 1 + acc.size ≤ _; omega) ?_)
    repeat' (first | refine WL.step (o_s (by rfl) ?_) | refine WL.step (o_len (by rfl) ?_) | refine WL.step (o_add (by rfl) (by rfl) (by unfold InI; omega) ?_) | refine WL.step (o_sub (by rfl) (by rfl) (by unfold InI; omega) ?_) | refine WL.step (OpW.pass (by rfl) ?_) | refine WL.nil ?_ | refine thenN ?_ | refine WP.region ?_ | refine WP.seq ?_ | refine WP.block ?_ | refine thenR ?_ | refine thenX ?_ | refine blkN ?_ | refine blkHit ?_ | refine blkR ?_ | refine blkMiss (by rfl) ?_ | refine WP.ret ?_ | refine WP.exit ?_ | refine WP.skip ?_ | refine WP.label ?_ | refine WP.condT (by rfl) ?_ | refine WP.condF (by rfl) ?_ | fail)
    refine ⟨_, ret1 rfl (by rfl), ?_⟩
    exact ⟨by unfold mt; rw [hq], hb⟩
/-- The marks of n strings. -/
def marksL : Nat → Nat → List Value
  | _, 0 => []
  | k, n + 1 => .string (mt k) :: marksL (k + 1) n
theorem marksL_length (k n : Nat) : (marksL k n).length = n := by induction n generalizing k <;> simp_all [marksL]
theorem marksL_get (k n i : Nat) (h : i < n) : (marksL k n)[i]? = some (.string (mt (k + i))) := by
  induction n generalizing k i with
  | zero => omega
  | succ n ih =>
    cases i with
    | zero => rfl
    | succ i => rw [marksL, List.getElem?_cons_succ, ih (k + 1) i (by omega), show k + 1 + i = k + (i + 1) from by omega]
theorem marks_step {us : List Value} {k n i : Nat} (hu : us.length = n) (h : i < n) :
    ((marksL k n).take i ++ us.drop i).set i (.string (mt (k + i))) = (marksL k n).take (i + 1) ++ us.drop (i + 1) := by
  have hl : i < (marksL k n).length := by rw [marksL_length]; exact h
  have ht : ((marksL k n).take i).length = i := by rw [List.length_take]; omega
  rw [List.set_append_right _ _ (by omega), ht, Nat.sub_self, List.drop_eq_getElem_cons (show i < us.length by omega), List.set_cons_zero, List.take_succ_eq_append_getElem hl]
  have : (marksL k n)[i] = .string (mt (k + i)) := by have := marksL_get k n i h; rw [List.getElem?_eq_getElem hl] at this; simpa using this
  rw [this, List.append_assoc]
  rfl

theorem eqS_same {lo hi lo' hi' : Nat} {w : World} {v v' : Value} {us : List Value} (hstr : ∀ u ∈ us, ∃ s, u = .string s) (h : VS lo hi w v us) (h' : VS lo' hi' w v' us) :
    Does Try.prog 17 [v, v'] w fun r w' => r = .bool true ∧ Chg 0 0 w w' := by
  obtain ⟨a, c, hv⟩ := h.shape
  obtain ⟨a', c', hv'⟩ := h'.shape
  rw [hv] at h ⊢
  rw [hv'] at h' ⊢
  have hm := h.len
  unfold maxLen at hm
  refine Does.enter Try.func17 Try.ntmps17 rfl (by rfl) ?_
  repeat' (first | refine WL.step (o_s (by rfl) ?_) | refine WL.step (o_len (by rfl) ?_) | refine WL.step (o_add (by rfl) (by rfl) (by unfold InI; omega) ?_) | refine WL.step (o_sub (by rfl) (by rfl) (by unfold InI; omega) ?_) | refine WL.step (OpW.pass (by rfl) ?_) | refine WL.nil ?_ | refine thenN ?_ | refine WP.region ?_ | refine WP.seq ?_ | refine WP.block ?_ | refine thenR ?_ | refine thenX ?_ | refine blkN ?_ | refine blkHit ?_ | refine blkR ?_ | refine blkMiss (by rfl) ?_ | refine WP.ret ?_ | refine WP.exit ?_ | refine WP.skip ?_ | refine WP.label ?_ | refine WP.condT (by rfl) ?_ | refine WP.condF (by rfl) ?_ | fail)
  try (refine WP.condD (by rfl) (fun hbad => False.elim (by first | exact hbad rfl | omega)) (fun _ => ?_))
  repeat' (first | refine WL.step (o_s (by rfl) ?_) | refine WL.step (o_len (by rfl) ?_) | refine WL.step (o_add (by rfl) (by rfl) (by unfold InI; omega) ?_) | refine WL.step (o_sub (by rfl) (by rfl) (by unfold InI; omega) ?_) | refine WL.step (OpW.pass (by rfl) ?_) | refine WL.nil ?_ | refine thenN ?_ | refine WP.region ?_ | refine WP.seq ?_ | refine WP.block ?_ | refine thenR ?_ | refine thenX ?_ | refine blkN ?_ | refine blkHit ?_ | refine blkR ?_ | refine blkMiss (by rfl) ?_ | refine WP.ret ?_ | refine WP.exit ?_ | refine WP.skip ?_ | refine WP.label ?_ | refine WP.condT (by rfl) ?_ | refine WP.condF (by rfl) ?_ | fail)
  refine WP.loop (fun k => [(0, .slice a us.length c), (1, .slice a' us.length c'), (5, .int .i64 (k : Nat))]) (fun k w2 => k ≤ us.length ∧ Still w w2)
    (fun k => us.length - k) 0 ⟨rfl, rfl, rfl, trivial⟩ ⟨by omega, Still.refl _⟩ ?_
  rintro k w2 ⟨hk, hs2⟩
  repeat' (first | refine WL.step (o_s (by rfl) ?_) | refine WL.step (o_len (by rfl) ?_) | refine WL.step (o_add (by rfl) (by rfl) (by unfold InI; omega) ?_) | refine WL.step (o_sub (by rfl) (by rfl) (by unfold InI; omega) ?_) | refine WL.step (OpW.pass (by rfl) ?_) | refine WL.nil ?_ | refine thenN ?_ | refine WP.region ?_ | refine WP.seq ?_ | refine WP.block ?_ | refine thenR ?_ | refine thenX ?_ | refine blkN ?_ | refine blkHit ?_ | refine blkR ?_ | refine blkMiss (by rfl) ?_ | refine WP.ret ?_ | refine WP.exit ?_ | refine WP.skip ?_ | refine WP.label ?_ | refine WP.condT (by rfl) ?_ | refine WP.condF (by rfl) ?_ | fail)
  first | refine WP.condD (by rfl) (fun _ => ?_) (fun _ => ?_) | refine WP.condND (by rfl) (fun _ => ?_) (fun _ => ?_) | refine WP.condN (by rfl) (fun _ => ?_) (fun _ => ?_) | refine WP.cond (by rfl) (fun _ => ?_) (fun _ => ?_) | fail
  · rename_i hlt
    have hlt' : k < us.length := by omega
    obtain ⟨s, hs⟩ := hstr _ (List.getElem_mem hlt')
    repeat' (first | refine WL.step (o_s (by rfl) ?_) | refine WL.step (o_len (by rfl) ?_) | refine WL.step (o_add (by rfl) (by rfl) (by unfold InI; omega) ?_) | refine WL.step (o_sub (by rfl) (by rfl) (by unfold InI; omega) ?_) | refine WL.step (OpW.pass (by rfl) ?_) | refine WL.nil ?_ | refine thenN ?_ | refine WP.region ?_ | refine WP.seq ?_ | refine WP.block ?_ | refine thenR ?_ | refine thenX ?_ | refine blkN ?_ | refine blkHit ?_ | refine blkR ?_ | refine blkMiss (by rfl) ?_ | refine WP.ret ?_ | refine WP.exit ?_ | refine WP.skip ?_ | refine WP.label ?_ | refine WP.condT (by rfl) ?_ | refine WP.condF (by rfl) ?_ | fail)
    refine WP.drawn (fun w' => w'.heap = w2.heap) [(0, true), (1, true), (2, true), (3, true), (4, true), (5, true), (6, true), (7, true), (8, true)] (by kernel_rfl) mixed ?_
    intro w3 hs3
    have hw3 : w3.heap = w2.heap := hs3.heap
    have ha := (h.still RV.stable hs2).still RV.stable hs3
    have hb := (h'.still RV.stable hs2).still RV.stable hs3
    repeat' (first | refine WS.q rfl (q_s (by rfl)) (by first | rfl | assumption) ?_ | refine WS.q rfl (q_len (by rfl)) (by first | rfl | assumption) ?_ | refine WS.q rfl (q_add (by rfl) (by rfl) (by unfold InI; omega)) (by first | rfl | assumption) ?_ | refine WS.q rfl (q_sub (by rfl) (by rfl) (by unfold InI; omega)) (by first | rfl | assumption) ?_ | refine WS.q rfl (q_pass (by rfl)) (by first | rfl | assumption) ?_ | refine WS.nil ?_ | fail)
    refine WS.ixload rfl rfl ha (List.getElem?_eq_getElem hlt') (fun w' hw' => same_heap (hw'.trans hw3.symm)) hw3 ?_
    rintro p _ rfl
    repeat' (first | refine WS.q rfl (q_s (by rfl)) (by first | rfl | assumption) ?_ | refine WS.q rfl (q_len (by rfl)) (by first | rfl | assumption) ?_ | refine WS.q rfl (q_add (by rfl) (by rfl) (by unfold InI; omega)) (by first | rfl | assumption) ?_ | refine WS.q rfl (q_sub (by rfl) (by rfl) (by unfold InI; omega)) (by first | rfl | assumption) ?_ | refine WS.q rfl (q_pass (by rfl)) (by first | rfl | assumption) ?_ | refine WS.nil ?_ | fail)
    refine WS.ixload rfl rfl hb (List.getElem?_eq_getElem hlt') (fun w' hw' => same_heap (hw'.trans hw3.symm)) hw3 ?_
    rintro p1 _ rfl
    rw [hs]
    refine WS.q rfl (q_neqS (by rfl) (by rfl)) hw3 ?_
    repeat' (first | refine WS.q rfl (q_s (by rfl)) (by first | rfl | assumption) ?_ | refine WS.q rfl (q_len (by rfl)) (by first | rfl | assumption) ?_ | refine WS.q rfl (q_add (by rfl) (by rfl) (by unfold InI; omega)) (by first | rfl | assumption) ?_ | refine WS.q rfl (q_sub (by rfl) (by rfl) (by unfold InI; omega)) (by first | rfl | assumption) ?_ | refine WS.q rfl (q_pass (by rfl)) (by first | rfl | assumption) ?_ | refine WS.nil ?_ | fail)
    repeat' (first | refine WL.step (o_s (by rfl) ?_) | refine WL.step (o_len (by rfl) ?_) | refine WL.step (o_add (by rfl) (by rfl) (by unfold InI; omega) ?_) | refine WL.step (o_sub (by rfl) (by rfl) (by unfold InI; omega) ?_) | refine WL.step (OpW.pass (by rfl) ?_) | refine WL.nil ?_ | refine thenN ?_ | refine WP.region ?_ | refine WP.seq ?_ | refine WP.block ?_ | refine thenR ?_ | refine thenX ?_ | refine blkN ?_ | refine blkHit ?_ | refine blkR ?_ | refine blkMiss (by rfl) ?_ | refine WP.ret ?_ | refine WP.exit ?_ | refine WP.skip ?_ | refine WP.label ?_ | refine WP.condT (by rfl) ?_ | refine WP.condF (by rfl) ?_ | fail)
    exact ⟨k + 1, ⟨rfl, rfl, rfl, trivial⟩, ⟨by omega, hs2.trans hs3⟩, by omega⟩
  · rename_i hge
    repeat' (first | refine WL.step (o_s (by rfl) ?_) | refine WL.step (o_len (by rfl) ?_) | refine WL.step (o_add (by rfl) (by rfl) (by unfold InI; omega) ?_) | refine WL.step (o_sub (by rfl) (by rfl) (by unfold InI; omega) ?_) | refine WL.step (OpW.pass (by rfl) ?_) | refine WL.nil ?_ | refine thenN ?_ | refine WP.region ?_ | refine WP.seq ?_ | refine WP.block ?_ | refine thenR ?_ | refine thenX ?_ | refine blkN ?_ | refine blkHit ?_ | refine blkR ?_ | refine blkMiss (by rfl) ?_ | refine WP.ret ?_ | refine WP.exit ?_ | refine WP.skip ?_ | refine WP.label ?_ | refine WP.condT (by rfl) ?_ | refine WP.condF (by rfl) ?_ | fail)
    refine ⟨_, ret1 rfl (by rfl), ?_⟩
    exact ⟨rfl, Chg.of_still hs2⟩
theorem markS {lo hi : Nat} {w : World} {v : Value} {us : List Value} {k : Nat} (h : OwV 9 lo hi w v us) (hk : 1 ≤ k) (hk2 : k + us.length ≤ 1000000) :
    Does Try.prog 18 [v, .int .i64 (k : Nat)] w fun r w' => r = .int .i64 ((k + us.length : Nat) : Int) ∧ OwV 9 lo hi w' v (marksL k us.length) ∧ Chg lo hi w w' := by
  obtain ⟨a, c, hv, _⟩ := h.own.shape
  rw [hv] at h ⊢
  have hml := marksL_length k us.length
  refine Does.enter Try.func18 Try.ntmps18 rfl (by rfl) ?_
  repeat' (first | refine WL.step (o_s (by rfl) ?_) | refine WL.step (o_len (by rfl) ?_) | refine WL.step (o_add (by rfl) (by rfl) (by unfold InI; omega) ?_) | refine WL.step (o_sub (by rfl) (by rfl) (by unfold InI; omega) ?_) | refine WL.step (OpW.pass (by rfl) ?_) | refine WL.nil ?_ | refine thenN ?_ | refine WP.region ?_ | refine WP.seq ?_ | refine WP.block ?_ | refine thenR ?_ | refine thenX ?_ | refine blkN ?_ | refine blkHit ?_ | refine blkR ?_ | refine blkMiss (by rfl) ?_ | refine WP.ret ?_ | refine WP.exit ?_ | refine WP.skip ?_ | refine WP.label ?_ | refine WP.condT (by rfl) ?_ | refine WP.condF (by rfl) ?_ | fail)
  refine WP.loop (fun i => [(0, .slice a us.length c), (1, .int .i64 ((k + i : Nat) : Int)), (5, .int .i64 (i : Nat))]) (fun i w2 => i ≤ us.length ∧ OwV 9 lo hi w2 (.slice a us.length c) ((marksL k us.length).take i ++ us.drop i) ∧ Chg lo hi w w2)
    (fun i => us.length - i) 0 ⟨rfl, (by first | rfl | (show some (Value.int .i64 _) = some (Value.int .i64 _); refine congrArg some (congrArg (Value.int IntKind.i64) ?_); omega)), rfl, trivial⟩ ⟨by omega, by simpa using h, Chg.refl _ _ _⟩ ?_
  rintro i w2 ⟨hi1, ho, hc⟩
  repeat' (first | refine WL.step (o_s (by rfl) ?_) | refine WL.step (o_len (by rfl) ?_) | refine WL.step (o_add (by rfl) (by rfl) (by unfold InI; omega) ?_) | refine WL.step (o_sub (by rfl) (by rfl) (by unfold InI; omega) ?_) | refine WL.step (OpW.pass (by rfl) ?_) | refine WL.nil ?_ | refine thenN ?_ | refine WP.region ?_ | refine WP.seq ?_ | refine WP.block ?_ | refine thenR ?_ | refine thenX ?_ | refine blkN ?_ | refine blkHit ?_ | refine blkR ?_ | refine blkMiss (by rfl) ?_ | refine WP.ret ?_ | refine WP.exit ?_ | refine WP.skip ?_ | refine WP.label ?_ | refine WP.condT (by rfl) ?_ | refine WP.condF (by rfl) ?_ | fail)
  first | refine WP.condD (by rfl) (fun _ => ?_) (fun _ => ?_) | refine WP.condND (by rfl) (fun _ => ?_) (fun _ => ?_) | refine WP.condN (by rfl) (fun _ => ?_) (fun _ => ?_) | refine WP.cond (by rfl) (fun _ => ?_) (fun _ => ?_) | fail
  · rename_i hlt
    have hlt' : i < us.length := by omega
    repeat' (first | refine WL.step (o_s (by rfl) ?_) | refine WL.step (o_len (by rfl) ?_) | refine WL.step (o_add (by rfl) (by rfl) (by unfold InI; omega) ?_) | refine WL.step (o_sub (by rfl) (by rfl) (by unfold InI; omega) ?_) | refine WL.step (OpW.pass (by rfl) ?_) | refine WL.nil ?_ | refine thenN ?_ | refine WP.region ?_ | refine WP.seq ?_ | refine WP.block ?_ | refine thenR ?_ | refine thenX ?_ | refine blkN ?_ | refine blkHit ?_ | refine blkR ?_ | refine blkMiss (by rfl) ?_ | refine WP.ret ?_ | refine WP.exit ?_ | refine WP.skip ?_ | refine WP.label ?_ | refine WP.condT (by rfl) ?_ | refine WP.condF (by rfl) ?_ | fail)
    refine WL.call (markText_any (k + i) (by omega) (by omega) _) ?_
    rintro _ w3 ⟨rfl, hbl3⟩
    have hc3 := Chg.of_below hbl3
    have ho3 := ho.chg (hc3.none (a := hi) (b := lo)) (.inl (Nat.le_refl _))
    have hz3 := hbl3.size
    refine WL.ixstore (j := i) ho3.own (by rw [List.length_append, List.length_take, List.length_drop]; omega) ?_
    intro p w4 hown4 hbl4 hz4 hs4
    rw [marks_step rfl hlt'] at hown4
    repeat' (first | refine WL.step (o_s (by rfl) ?_) | refine WL.step (o_len (by rfl) ?_) | refine WL.step (o_add (by rfl) (by rfl) (by unfold InI; omega) ?_) | refine WL.step (o_sub (by rfl) (by rfl) (by unfold InI; omega) ?_) | refine WL.step (OpW.pass (by rfl) ?_) | refine WL.nil ?_ | refine thenN ?_ | refine WP.region ?_ | refine WP.seq ?_ | refine WP.block ?_ | refine thenR ?_ | refine thenX ?_ | refine blkN ?_ | refine blkHit ?_ | refine blkR ?_ | refine blkMiss (by rfl) ?_ | refine WP.ret ?_ | refine WP.exit ?_ | refine WP.skip ?_ | refine WP.label ?_ | refine WP.condT (by rfl) ?_ | refine WP.condF (by rfl) ?_ | fail)
    refine ⟨i + 1, ⟨rfl, (by first | rfl | (show some (Value.int .i64 _) = some (Value.int .i64 _); refine congrArg some (congrArg (Value.int IntKind.i64) ?_); omega)), rfl, trivial⟩, ⟨by omega, ⟨hown4, ho3.lt, by rw [hz4]; exact ho3.hi_le⟩, hc.trans ((hc3.none (a := lo) (b := hi)).trans ⟨hbl4.os, hbl4.tape, hbl4.output, hbl4.size, fun j hj hd => hs4 j fun e => ?_⟩)⟩, by omega⟩
    have a1 := (ho3.own.block j e).1
    have a2 := ho3.lt j e
    omega
  · rename_i hge
    have : i = us.length := by omega
    subst this
    rw [List.take_of_length_le (by omega), List.drop_length, List.append_nil] at ho
    repeat' (first | refine WL.step (o_s (by rfl) ?_) | refine WL.step (o_len (by rfl) ?_) | refine WL.step (o_add (by rfl) (by rfl) (by unfold InI; omega) ?_) | refine WL.step (o_sub (by rfl) (by rfl) (by unfold InI; omega) ?_) | refine WL.step (OpW.pass (by rfl) ?_) | refine WL.nil ?_ | refine thenN ?_ | refine WP.region ?_ | refine WP.seq ?_ | refine WP.block ?_ | refine thenR ?_ | refine thenX ?_ | refine blkN ?_ | refine blkHit ?_ | refine blkR ?_ | refine blkMiss (by rfl) ?_ | refine WP.ret ?_ | refine WP.exit ?_ | refine WP.skip ?_ | refine WP.label ?_ | refine WP.condT (by rfl) ?_ | refine WP.condF (by rfl) ?_ | fail)
    refine ⟨_, ret1 rfl (by rfl), ?_⟩
    exact ⟨rfl, ho, hc⟩
theorem heldS {lo hi : Nat} {w : World} {v : Value} {n k : Nat} (h : VS lo hi w v (marksL k n)) (hk : 1 ≤ k) (hk2 : k + n ≤ 1000000) :
    Does Try.prog 19 [v, .int .i64 (k : Nat)] w fun r w' => r = .int .i64 ((k + n : Nat) : Int) ∧ Chg 0 0 w w' := by
  obtain ⟨a, c, hv⟩ := h.shape
  have hz := h.hi_le
  rw [hv] at h ⊢
  rw [marksL_length] at h ⊢
  refine Does.enter Try.func19 Try.ntmps19 rfl (by rfl) ?_
  repeat' (first | refine WL.step (o_s (by rfl) ?_) | refine WL.step (o_len (by rfl) ?_) | refine WL.step (o_add (by rfl) (by rfl) (by unfold InI; omega) ?_) | refine WL.step (o_sub (by rfl) (by rfl) (by unfold InI; omega) ?_) | refine WL.step (OpW.pass (by rfl) ?_) | refine WL.nil ?_ | refine thenN ?_ | refine WP.region ?_ | refine WP.seq ?_ | refine WP.block ?_ | refine thenR ?_ | refine thenX ?_ | refine blkN ?_ | refine blkHit ?_ | refine blkR ?_ | refine blkMiss (by rfl) ?_ | refine WP.ret ?_ | refine WP.exit ?_ | refine WP.skip ?_ | refine WP.label ?_ | refine WP.condT (by rfl) ?_ | refine WP.condF (by rfl) ?_ | fail)
  refine WP.loop (fun i => [(0, .slice a n c), (1, .int .i64 ((k + i : Nat) : Int)), (5, .int .i64 (i : Nat))]) (fun i w2 => i ≤ n ∧ Below w.heap.size w w2)
    (fun i => n - i) 0 ⟨rfl, (by first | rfl | (show some (Value.int .i64 _) = some (Value.int .i64 _); refine congrArg some (congrArg (Value.int IntKind.i64) ?_); omega)), rfl, trivial⟩ ⟨by omega, Below.refl _ _⟩ ?_
  rintro i w2 ⟨hi1, hb2⟩
  have hz2 := hb2.size
  repeat' (first | refine WL.step (o_s (by rfl) ?_) | refine WL.step (o_len (by rfl) ?_) | refine WL.step (o_add (by rfl) (by rfl) (by unfold InI; omega) ?_) | refine WL.step (o_sub (by rfl) (by rfl) (by unfold InI; omega) ?_) | refine WL.step (OpW.pass (by rfl) ?_) | refine WL.nil ?_ | refine thenN ?_ | refine WP.region ?_ | refine WP.seq ?_ | refine WP.block ?_ | refine thenR ?_ | refine thenX ?_ | refine blkN ?_ | refine blkHit ?_ | refine blkR ?_ | refine blkMiss (by rfl) ?_ | refine WP.ret ?_ | refine WP.exit ?_ | refine WP.skip ?_ | refine WP.label ?_ | refine WP.condT (by rfl) ?_ | refine WP.condF (by rfl) ?_ | fail)
  first | refine WP.condD (by rfl) (fun _ => ?_) (fun _ => ?_) | refine WP.condND (by rfl) (fun _ => ?_) (fun _ => ?_) | refine WP.condN (by rfl) (fun _ => ?_) (fun _ => ?_) | refine WP.cond (by rfl) (fun _ => ?_) (fun _ => ?_) | fail
  · rename_i hlt
    have hlt' : i < n := by omega
    repeat' (first | refine WL.step (o_s (by rfl) ?_) | refine WL.step (o_len (by rfl) ?_) | refine WL.step (o_add (by rfl) (by rfl) (by unfold InI; omega) ?_) | refine WL.step (o_sub (by rfl) (by rfl) (by unfold InI; omega) ?_) | refine WL.step (OpW.pass (by rfl) ?_) | refine WL.nil ?_ | refine thenN ?_ | refine WP.region ?_ | refine WP.seq ?_ | refine WP.block ?_ | refine thenR ?_ | refine thenX ?_ | refine blkN ?_ | refine blkHit ?_ | refine blkR ?_ | refine blkMiss (by rfl) ?_ | refine WP.ret ?_ | refine WP.exit ?_ | refine WP.skip ?_ | refine WP.label ?_ | refine WP.condT (by rfl) ?_ | refine WP.condF (by rfl) ?_ | fail)
    refine WP.drawn (fun w' => Below w2.heap.size w2 w') [(0, true), (1, true), (2, true), (3, true), (4, true), (5, false), (6, true)] (by kernel_rfl) mixed ?_
    intro w3 hs3
    have hS3 : Below w2.heap.size w2 w3 := hs3.below _
    have h3 := (h.below RV.stable hb2 hz).still RV.stable hs3
    repeat' (first | refine WS.q rfl (q_s (by rfl)) (by first | rfl | assumption) ?_ | refine WS.q rfl (q_len (by rfl)) (by first | rfl | assumption) ?_ | refine WS.q rfl (q_add (by rfl) (by rfl) (by unfold InI; omega)) (by first | rfl | assumption) ?_ | refine WS.q rfl (q_sub (by rfl) (by rfl) (by unfold InI; omega)) (by first | rfl | assumption) ?_ | refine WS.q rfl (q_pass (by rfl)) (by first | rfl | assumption) ?_ | refine WS.nil ?_ | fail)
    refine WS.ixload rfl rfl h3 (marksL_get k n i hlt') (fun w' hw' => same_below hS3 hw' (by omega)) hS3 ?_
    rintro p _ rfl
    repeat' (first | refine WS.q rfl (q_s (by rfl)) (by first | rfl | assumption) ?_ | refine WS.q rfl (q_len (by rfl)) (by first | rfl | assumption) ?_ | refine WS.q rfl (q_add (by rfl) (by rfl) (by unfold InI; omega)) (by first | rfl | assumption) ?_ | refine WS.q rfl (q_sub (by rfl) (by rfl) (by unfold InI; omega)) (by first | rfl | assumption) ?_ | refine WS.q rfl (q_pass (by rfl)) (by first | rfl | assumption) ?_ | refine WS.nil ?_ | fail)
    refine WS.call rfl (markText_any (k + i) (by omega) (by omega) _) ?_
    rintro _ w4 ⟨rfl, hbl4⟩
    have hS4 : Below w2.heap.size w2 w4 := hS3.trans (Below.mono hbl4 (by have := hs3.size; omega))
    refine ⟨hS4, ?_⟩
    refine WS.q rfl (q_neqS (by rfl) (by rfl)) hS4 ?_
    repeat' (first | refine WS.q rfl (q_s (by rfl)) (by first | rfl | assumption) ?_ | refine WS.q rfl (q_len (by rfl)) (by first | rfl | assumption) ?_ | refine WS.q rfl (q_add (by rfl) (by rfl) (by unfold InI; omega)) (by first | rfl | assumption) ?_ | refine WS.q rfl (q_sub (by rfl) (by rfl) (by unfold InI; omega)) (by first | rfl | assumption) ?_ | refine WS.q rfl (q_pass (by rfl)) (by first | rfl | assumption) ?_ | refine WS.nil ?_ | fail)
    repeat' (first | refine WL.step (o_s (by rfl) ?_) | refine WL.step (o_len (by rfl) ?_) | refine WL.step (o_add (by rfl) (by rfl) (by unfold InI; omega) ?_) | refine WL.step (o_sub (by rfl) (by rfl) (by unfold InI; omega) ?_) | refine WL.step (OpW.pass (by rfl) ?_) | refine WL.nil ?_ | refine thenN ?_ | refine WP.region ?_ | refine WP.seq ?_ | refine WP.block ?_ | refine thenR ?_ | refine thenX ?_ | refine blkN ?_ | refine blkHit ?_ | refine blkR ?_ | refine blkMiss (by rfl) ?_ | refine WP.ret ?_ | refine WP.exit ?_ | refine WP.skip ?_ | refine WP.label ?_ | refine WP.condT (by rfl) ?_ | refine WP.condF (by rfl) ?_ | fail)
    exact ⟨i + 1, ⟨rfl, (by first | rfl | (show some (Value.int .i64 _) = some (Value.int .i64 _); refine congrArg some (congrArg (Value.int IntKind.i64) ?_); omega)), rfl, trivial⟩, ⟨by omega, hb2.trans (Below.mono hS4 (by omega))⟩, by omega⟩
  · rename_i hge
    have : i = n := by omega
    subst this
    repeat' (first | refine WL.step (o_s (by rfl) ?_) | refine WL.step (o_len (by rfl) ?_) | refine WL.step (o_add (by rfl) (by rfl) (by unfold InI; omega) ?_) | refine WL.step (o_sub (by rfl) (by rfl) (by unfold InI; omega) ?_) | refine WL.step (OpW.pass (by rfl) ?_) | refine WL.nil ?_ | refine thenN ?_ | refine WP.region ?_ | refine WP.seq ?_ | refine WP.block ?_ | refine thenR ?_ | refine thenX ?_ | refine blkN ?_ | refine blkHit ?_ | refine blkR ?_ | refine blkMiss (by rfl) ?_ | refine WP.ret ?_ | refine WP.exit ?_ | refine WP.skip ?_ | refine WP.label ?_ | refine WP.condT (by rfl) ?_ | refine WP.condF (by rfl) ?_ | fail)
    refine ⟨_, ret1 rfl (by rfl), ?_⟩
    exact ⟨rfl, Chg.of_below hb2⟩
/-- The operands of the first slice literal. -/
def findLit : Code → Option (List Operand)
  | .seq x y => match findLit x with | some r => some r | none => findLit y
  | .block _ c => findLit c
  | .region _ ops _ => ops.toList.findSome? fun o => match o.op with | .buildSlice _ _ parts => some (parts.toList.map (·.2)) | _ => none
  | _ => none
noncomputable def namesV : List Value := ((Try.f16.body.bind findLit).bind (evs [])).getD []
def isStr : Value → Bool
  | .string _ => true
  | _ => false
theorem namesV_len : namesV.length = 12 := by rfl
theorem namesV_str : ∀ u ∈ namesV, ∃ s, u = .string s := fun u hu => by
  have h : namesV.all isStr = true := by rfl
  have := List.all_eq_true.1 h u hu
  cases u <;> first | exact ⟨_, rfl⟩ | cases this
theorem str_one {us : List Value} (h : ∀ u ∈ us, ∃ s, u = .string s) : ∀ u ∈ us, u.oneCell' = true := fun u hu => by obtain ⟨s, rfl⟩ := h u hu; rfl
theorem TableauNames_any (w : World) : Does Try.prog 16 [] w fun r w' => OwV 9 w.heap.size w'.heap.size w' r namesV ∧ Chg 0 0 w w' := by
  refine Does.enter Try.func16 Try.ntmps16 rfl (by rfl) ?_
  repeat' (first | refine WL.step (o_s (by rfl) ?_) | refine WL.step (o_len (by rfl) ?_) | refine WL.step (o_add (by rfl) (by rfl) (by unfold InI; omega) ?_) | refine WL.step (o_sub (by rfl) (by rfl) (by unfold InI; omega) ?_) | refine WL.step (OpW.pass (by rfl) ?_) | refine WL.nil ?_ | refine thenN ?_ | refine WP.region ?_ | refine WP.seq ?_ | refine WP.block ?_ | refine thenR ?_ | refine thenX ?_ | refine blkN ?_ | refine blkHit ?_ | refine blkR ?_ | refine blkMiss (by rfl) ?_ | refine WP.ret ?_ | refine WP.exit ?_ | refine WP.skip ?_ | refine WP.label ?_ | refine WP.condT (by rfl) ?_ | refine WP.condF (by rfl) ?_ | fail)
  refine WL.step (o_lit (us := namesV) (by rfl) (by rfl) (by rfl) (by decide) (str_one namesV_str) ?_)
  intro v1 w1 hown hbl hz _
  repeat' (first | refine WL.step (o_s (by rfl) ?_) | refine WL.step (o_len (by rfl) ?_) | refine WL.step (o_add (by rfl) (by rfl) (by unfold InI; omega) ?_) | refine WL.step (o_sub (by rfl) (by rfl) (by unfold InI; omega) ?_) | refine WL.step (OpW.pass (by rfl) ?_) | refine WL.nil ?_ | refine thenN ?_ | refine WP.region ?_ | refine WP.seq ?_ | refine WP.block ?_ | refine thenR ?_ | refine thenX ?_ | refine blkN ?_ | refine blkHit ?_ | refine blkR ?_ | refine blkMiss (by rfl) ?_ | refine WP.ret ?_ | refine WP.exit ?_ | refine WP.skip ?_ | refine WP.label ?_ | refine WP.condT (by rfl) ?_ | refine WP.condF (by rfl) ?_ | fail)
  refine ⟨_, ret1 rfl (by rfl), ?_⟩
  exact ⟨⟨hown, fun k hk => (hown.block k hk).2, Nat.le_refl _⟩, Chg.of_below hbl⟩
theorem sTableauNames_any (w : World) : Does Try.prog 15 [] w fun r w' => OwV 9 w.heap.size w'.heap.size w' r namesV ∧ Chg 0 0 w w' := by
  refine Does.enter Try.func15 Try.ntmps15 rfl (by rfl) ?_
  repeat' (first | refine WL.step (o_s (by rfl) ?_) | refine WL.step (o_len (by rfl) ?_) | refine WL.step (o_add (by rfl) (by rfl) (by unfold InI; omega) ?_) | refine WL.step (o_sub (by rfl) (by rfl) (by unfold InI; omega) ?_) | refine WL.step (OpW.pass (by rfl) ?_) | refine WL.nil ?_ | refine thenN ?_ | refine WP.region ?_ | refine WP.seq ?_ | refine WP.block ?_ | refine thenR ?_ | refine thenX ?_ | refine blkN ?_ | refine blkHit ?_ | refine blkR ?_ | refine blkMiss (by rfl) ?_ | refine WP.ret ?_ | refine WP.exit ?_ | refine WP.skip ?_ | refine WP.label ?_ | refine WP.condT (by rfl) ?_ | refine WP.condF (by rfl) ?_ | fail)
  refine WL.step (o_lit (us := namesV) (by rfl) (by rfl) (by rfl) (by decide) (str_one namesV_str) ?_)
  intro v1 w1 hown hbl hz _
  repeat' (first | refine WL.step (o_s (by rfl) ?_) | refine WL.step (o_len (by rfl) ?_) | refine WL.step (o_add (by rfl) (by rfl) (by unfold InI; omega) ?_) | refine WL.step (o_sub (by rfl) (by rfl) (by unfold InI; omega) ?_) | refine WL.step (OpW.pass (by rfl) ?_) | refine WL.nil ?_ | refine thenN ?_ | refine WP.region ?_ | refine WP.seq ?_ | refine WP.block ?_ | refine thenR ?_ | refine thenX ?_ | refine blkN ?_ | refine blkHit ?_ | refine blkR ?_ | refine blkMiss (by rfl) ?_ | refine WP.ret ?_ | refine WP.exit ?_ | refine WP.skip ?_ | refine WP.label ?_ | refine WP.condT (by rfl) ?_ | refine WP.condF (by rfl) ?_ | fail)
  refine ⟨_, ret1 rfl (by rfl), ?_⟩
  exact ⟨⟨hown, fun k hk => (hown.block k hk).2, Nat.le_refl _⟩, Chg.of_below hbl⟩
end Go.Proofs
