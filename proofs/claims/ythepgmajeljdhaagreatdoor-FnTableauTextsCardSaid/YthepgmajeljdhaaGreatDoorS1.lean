/- Strings and slices of strings in the laws. -/
import Derived.Test.YthepgmajeljdhaaGreatDoorHB
import Derived.Laws.BytesArg
import Derived.Laws.Concat
import Derived.Laws.Strings
namespace Go.Fw
open Go Go.RowKit

theorem wrap_u8 {a : Int} (h0 : 0 ≤ a) (h1 : a ≤ 255) : IntKind.u8.wrap a = a := by
  simp only [IntKind.wrap, IntKind.bits, IntKind.signed]
  have : a % 256 = a := by omega
  simp [this]

section
variable {P : Program} {N : Nat} {Q : Exit → Fr → World → Prop} {S : World → Prop} {l : Fr} {w : World} {ops : Array Oper} {K : Fr → World → Prop}
variable {d : Nat} {ty : TypeId} {pos : String} {af : Array Edge} {g : Option (Nat × Bool)}
theorem o_convU8 {t u : TypeId} [h1 : IntTy P t .i64] [h2 : IntTy P u .u8] {x : Operand} {a : Int} (hx : ev l x = some (.int .i64 a)) (h0 : 0 ≤ a) (h3 : a ≤ 255) (k : K ((d, .int .u8 a) :: l) w)
    (hg : wantedL ops l g = some true := by rfl) (hd : Nat.blt d N = true := by rfl) : OpW P N ops Q ⟨some d, .convert t u x, ty, pos, af, g⟩ l w K :=
  OpW.val (fun fr ha => by simp [execOp, ha.ev hx, convert, run_underlying h1.und, run_underlying h2.und, Conv.intToInt, wrap_u8 h0 h3]) k hg hd
theorem o_convS {t e u : TypeId} {z : Value} {bytes lo : Nat} [h1 : SliceTy P t e z bytes] [h2 : IntTy P e .u8] [h3 : StrTy P u] {x : Operand} {v : Value} {c : Int} (hx : ev l x = some v) (hown : Own lo e w v [.int .u8 c]) (k : K ((d, .string (strOfNums [c])) :: l) w)
    (hg : wantedL ops l g = some true := by rfl) (hd : Nat.blt d N = true := by rfl) : OpW P N ops Q ⟨some d, .convert t u x, ty, pos, af, g⟩ l w K := by
  obtain ⟨g', c', rfl, _, _, hcell, _⟩ := hown.cell (i := 0) (u := .int .u8 c) rfl
  have hr := run_convert_bytes_arg (P := P) w t e h1.und h2.und g' 0 1 c' [c] rfl (fun i hi => by
    have : i = 0 := by omega
    subst this
    simpa using hcell) u h3.und
  exact OpW.val (fun fr ha => by simp only [execOp, ha.ev hx, Sem.run_bind]; rw [show ([Value.int IntKind.u8 c] : List Value).length = 1 from rfl, hr]; simp) k hg hd
theorem o_addS {x y : Operand} {t t' : TypeId} {a b : ByteArray} (hx : ev l x = some (.string a)) (hy : ev l y = some (.string b)) (hb : a.size + b.size ≤ 9223372036854775807) (k : K ((d, .string (a ++ b)) :: l) w)
    (hg : wantedL ops l g = some true := by rfl) (hd : Nat.blt d N = true := by rfl) : OpW P N ops Q ⟨some d, .binOp .add t x y t', ty, pos, af, g⟩ l w K :=
  OpW.val (fun fr ha => by simp [execOp, ha.ev hx, ha.ev hy, eqGuard, binOp_string_add, run_string_add_sum w a b hb]) k hg hd
/-- a != b of two equal strings. -/
theorem q_neqS {t t' : TypeId} [StrTy P t] {x y : Operand} {a : ByteArray} (hx : ev l x = some (.string a)) (hy : ev l y = some (.string a))
    (hg : wantedL ops l g = some true := by rfl) (hd : Nat.blt d N = true := by rfl) : QW P N ops S ⟨some d, .binOp .neq t x y t', ty, pos, af, g⟩ l d (.bool false) :=
  QW.mk (fun fr ha w _ => by simp [execOp, ha.ev hx, ha.ev hy, binOp, eqGuard, Op.stringOp]) hg hd
end

def RV (_ _ : Nat) (_ : World) (u : Value) (x : Value) : Prop := u = x
theorem RV.stable : Stable RV := ⟨fun _ _ _ _ _ _ _ _ h => h, fun _ _ _ _ _ _ _ _ _ _ h => h⟩
abbrev VS := SL RV
/-- A slice that the call owns, in the blocks from lo on, below hi. -/
structure OwV (e : TypeId) (lo hi : Nat) (w : World) (v : Value) (us : List Value) : Prop where
  own : Own lo e w v us
  lt : ∀ k, v.ownBlock = some k → k < hi
  hi_le : hi ≤ w.heap.size
theorem OwV.chg {e : TypeId} {lo hi a b : Nat} {w w' : World} {v : Value} {us : List Value} (h : OwV e lo hi w v us) (hc : Chg a b w w') (hd : hi ≤ a ∨ b ≤ lo) : OwV e lo hi w' v us :=
  ⟨h.own.keep fun k hk => hc.same h.hi_le hd k (h.own.block k hk).1 (h.lt k hk), h.lt, Nat.le_trans h.hi_le hc.size⟩
theorem OwV.rd {e : TypeId} {lo hi : Nat} {w : World} {v : Value} {us : List Value} (h : OwV e lo hi w v us) : VS lo hi w v us :=
  h.own.toSL rfl (Nat.le_refl _) h.lt h.hi_le fun i u x hu hx => by rw [hu] at hx; simpa [RV] using hx
end Go.Fw

namespace Go.Proofs
open Go Go.Fw Go.RowKit
/-- The text of a mark: the digits in front of acc. -/
def mtGo (n : Nat) (acc : ByteArray) : ByteArray := if h : n = 0 then acc else mtGo (n / 10) (strOfNums [48 + ((n % 10 : Nat) : Int)] ++ acc)
termination_by n
decreasing_by omega
theorem mtGo_zero (acc : ByteArray) : mtGo 0 acc = acc := by rw [mtGo]; rfl
theorem mtGo_step {n : Nat} (h : n ≠ 0) (acc : ByteArray) : mtGo n acc = mtGo (n / 10) (strOfNums [48 + ((n % 10 : Nat) : Int)] ++ acc) := by rw [mtGo, dif_neg h]
def mt (n : Nat) : ByteArray := ⟨#[109]⟩ ++ mtGo n ⟨#[]⟩
theorem tmod10 (e : Nat) : ((e : Nat) : Int).tmod 10 = ((e % 10 : Nat) : Int) := by rw [Int.tmod_eq_emod_of_nonneg (by omega)]; omega
theorem tdiv10 (e : Nat) : ((e : Nat) : Int).tdiv 10 = ((e / 10 : Nat) : Int) := by rw [Int.tdiv_eq_ediv_of_nonneg (by omega)]; omega

/-- The marks of n strings. -/
def marksL : Nat → Nat → List Value
  | _, 0 => []
  | k, n + 1 => .string (mt k) :: marksL (k + 1) n
theorem marksL_length (k n : Nat) : (marksL k n).length = n := by induction n generalizing k <;> simp_all [marksL]
theorem marksL_get (k n i : Nat) (h : i < n) : (marksL k n)[i]? = some (.string (mt (k + i))) := by
  induction n generalizing k i with
  | zero => omega
  | succ n ih =>
    cases i with
    | zero => rfl
    | succ i => rw [marksL, List.getElem?_cons_succ, ih (k + 1) i (by omega), show k + 1 + i = k + (i + 1) from by omega]
theorem marks_step {us : List Value} {k n i : Nat} (hu : us.length = n) (h : i < n) :
    ((marksL k n).take i ++ us.drop i).set i (.string (mt (k + i))) = (marksL k n).take (i + 1) ++ us.drop (i + 1) := by
  have hl : i < (marksL k n).length := by rw [marksL_length]; exact h
  have ht : ((marksL k n).take i).length = i := by rw [List.length_take]; omega
  rw [List.set_append_right _ _ (by omega), ht, Nat.sub_self, List.drop_eq_getElem_cons (show i < us.length by omega), List.set_cons_zero, List.take_succ_eq_append_getElem hl]
  have : (marksL k n)[i] = .string (mt (k + i)) := by have := marksL_get k n i h; rw [List.getElem?_eq_getElem hl] at this; simpa using this
  rw [this, List.append_assoc]
  rfl

/-- The operands of the first slice literal. -/
def findLit : Code → Option (List Operand)
  | .seq x y => match findLit x with | some r => some r | none => findLit y
  | .block _ c => findLit c
  | .region _ ops _ => ops.toList.findSome? fun o => match o.op with | .buildSlice _ _ parts => some (parts.toList.map (·.2)) | _ => none
  | _ => none
noncomputable def namesV : List Value := ((Tryz.f15.body.bind findLit).bind (evs [])).getD []
def isStr : Value → Bool
  | .string _ => true
  | _ => false
theorem namesV_len : namesV.length = 12 := by rfl
theorem namesV_str : ∀ u ∈ namesV, ∃ s, u = .string s := fun u hu => by
  have h : namesV.all isStr = true := by rfl
  have := List.all_eq_true.1 h u hu
  cases u <;> first | exact ⟨_, rfl⟩ | cases this
theorem str_one {us : List Value} (h : ∀ u ∈ us, ∃ s, u = .string s) : ∀ u ∈ us, u.oneCell' = true := fun u hu => by obtain ⟨s, rfl⟩ := h u hu; rfl
theorem TableauNames_any (w : World) : Does Tryz.prog 14 [] w fun r w' => OwV 9 w.heap.size w'.heap.size w' r namesV ∧ Chg 0 0 w w' := by
  refine Does.enter Tryz.func14 Tryz.ntmps14 rfl (by rfl) ?_
  repeat' (first|refine X.O ?_|refine X.A ?_|refine X.B ?_|refine X.C ?_|refine X.D ?_|refine X.E ?_|refine X.F ?_|refine X.G ?_|refine X.H ?_|refine X.I ?_|fail)
  refine WL.step (o_lit (us := namesV) (by rfl) (by rfl) (by rfl) (by decide) (str_one namesV_str) ?_)
  intro v1 w1 hown hbl hz _
  repeat' (first|refine X.O ?_|refine X.A ?_|refine X.B ?_|refine X.C ?_|refine X.D ?_|refine X.E ?_|refine X.F ?_|refine X.G ?_|refine X.H ?_|refine X.I ?_|fail)
  refine ⟨_, ret1 rfl (by rfl), ?_⟩
  exact ⟨⟨hown, fun k hk => (hown.block k hk).2, Nat.le_refl _⟩, Chg.of_below hbl⟩
theorem sTableauNames_any (w : World) : Does Tryz.prog 15 [] w fun r w' => OwV 9 w.heap.size w'.heap.size w' r namesV ∧ Chg 0 0 w w' := by
  refine Does.enter Tryz.func15 Tryz.ntmps15 rfl (by rfl) ?_
  repeat' (first|refine X.O ?_|refine X.A ?_|refine X.B ?_|refine X.C ?_|refine X.D ?_|refine X.E ?_|refine X.F ?_|refine X.G ?_|refine X.H ?_|refine X.I ?_|fail)
  refine WL.step (o_lit (us := namesV) (by rfl) (by rfl) (by rfl) (by decide) (str_one namesV_str) ?_)
  intro v1 w1 hown hbl hz _
  repeat' (first|refine X.O ?_|refine X.A ?_|refine X.B ?_|refine X.C ?_|refine X.D ?_|refine X.E ?_|refine X.F ?_|refine X.G ?_|refine X.H ?_|refine X.I ?_|fail)
  refine ⟨_, ret1 rfl (by rfl), ?_⟩
  exact ⟨⟨hown, fun k hk => (hown.block k hk).2, Nat.le_refl _⟩, Chg.of_below hbl⟩
end Go.Proofs
