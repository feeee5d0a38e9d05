/- Texts are damaged, exactly as to how much of the source is used. -/
import Derived.Test.YthepgmajeljdhaaGreatDoorV4
import Derived.Test.YthepgmajeljdhaaGreatDoorZ5
import Derived.Test.YthepgmajeljdhaaGreatDoorZH
set_option maxRecDepth 8000
namespace Go.Fw
open Go Go.RowKit Go.Rk
section
variable {P : Program} {N : Nat} {Q : Exit → Fr → World → Prop} {S : World → Prop} {l : Fr} {w : World} {ops : Array Oper} {K : Fr → World → Prop}
variable {d : Nat} {ty : TypeId} {pos : String} {af : Array Edge} {g : Option (Nat × Bool)}
theorem run_sliceTl {t : TypeId} [h : StrTy P t] {s : List UInt8} {k1 : IntKind} {i : Nat} (hi : i ≤ s.length) : (Instr.sliceAt t (.string ⟨s.toArray⟩) (some (.int k1 (i : Nat))) none none).run P w = .ok (St (s.drop i)) w := by
  rw [run_sliceAt_string w t _ _ _ _ h.und, run_slice_string_l w t ⟨s.toArray⟩ h.und k1 (i : Nat) (by omega) (by rw [St_size]; omega), St_extract, St_size]
  have : (s.drop i).take (s.length - i) = s.drop i := List.take_of_length_le (by simp)
  simp [this]
theorem run_sliceTh {t : TypeId} [h : StrTy P t] {s : List UInt8} {k1 : IntKind} {i : Nat} (hi : i ≤ s.length) : (Instr.sliceAt t (.string ⟨s.toArray⟩) none (some (.int k1 (i : Nat))) none).run P w = .ok (St (s.take i)) w := by
  rw [run_sliceAt_string w t _ _ _ _ h.und]
  have h3 : (i : Int) ≤ ((⟨s.toArray⟩ : ByteArray).size : Int) := by rw [St_size]; omega
  have h4 := St_extract s 0 i
  rw [List.drop_zero, Nat.sub_zero] at h4
  simp [Instr.slice, run_underlying h.und, Instr.sliceBounds, run_sliceBound, sliced, hi, h3, h4]
theorem q_sliceTl {t : TypeId} [h : StrTy P t] {x y : Operand} {s : List UInt8} {k1 : IntKind} {i : Nat} (hx : ev l x = some (St s)) (hy : ev l y = some (.int k1 (i : Nat))) (hi : i ≤ s.length)
    (hg : wantedL ops l g = some true := by rfl) (hd : Nat.blt d N = true := by rfl) : QW P N ops S ⟨some d, .slice t x (some y) none none, ty, pos, af, g⟩ l d (St (s.drop i)) :=
  QW.mk (fun fr ha w _ => by simp [execOp, ha.ev hx, ha.ev hy, run_sliceTl (P := P) (t := t) hi]) hg hd
theorem q_sliceTh {t : TypeId} [h : StrTy P t] {x y : Operand} {s : List UInt8} {k1 : IntKind} {i : Nat} (hx : ev l x = some (St s)) (hy : ev l y = some (.int k1 (i : Nat))) (hi : i ≤ s.length)
    (hg : wantedL ops l g = some true := by rfl) (hd : Nat.blt d N = true := by rfl) : QW P N ops S ⟨some d, .slice t x none (some y) none, ty, pos, af, g⟩ l d (St (s.take i)) :=
  QW.mk (fun fr ha w _ => by simp [execOp, ha.ev hx, ha.ev hy, run_sliceTh (P := P) (t := t) hi]) hg hd
end
end Go.Fw
namespace Go.Proofs
open Go Go.Fw Go.RowKit Go.Rk
def sgn22 : List (List UInt8) := [[48], [49], [50], [55], [57], [45], [47], [32], [44], [59], [124], [58], [46], [43], [42], [120], [121], [104], [97], [40], [41], [10]]
theorem sgn_one : ∀ u ∈ sgn22.map St, u.oneCell' = true := fun u hu => by
  obtain ⟨s, _, rfl⟩ := List.mem_map.1 hu
  rfl
theorem sgn_len {i : Nat} (h : i < 22) : (sgn22.getD i []).length = 1 := by
  have key : (List.range 22).all (fun i => decide ((sgn22.getD i []).length = 1)) = true := by kernel_rfl
  exact of_decide_eq_true (List.all_eq_true.1 key i (List.mem_range.2 h))
theorem sgn_get {i : Nat} (h : i < 22) : (sgn22.map St)[i]? = some (St (sgn22.getD i [])) := by
  rw [List.getElem?_map, List.getElem?_eq_getElem (show i < sgn22.length from h), List.getD_eq_getElem?_getD, List.getElem?_eq_getElem (show i < sgn22.length from h)]; rfl
theorem l01Damage_exact {sb r g : Nat} {w : World} (h : SG sb r g w) (t : List UInt8) (ht : t.length ≤ 3000000000) :
    Does Tryz.prog 42 [.pointer (some ⟨sb, 0, none⟩), St t] w fun q w' => (∃ t', q = St t' ∧ t'.length ≤ t.length + 1) ∧ (∃ d, (d = 1 ∨ d = 3) ∧ SG sb (r - d) (runG d g) w') ∧ Chg sb (sb + 1) w w' := by
  have hlt := h.lt
  refine Does.enter Tryz.func42 Tryz.ntmps42 rfl (by rfl) ?_
  repeat' (first|refine X.O ?_|refine X.A ?_|refine X.B ?_|refine X.C ?_|refine X.D ?_|refine X.E ?_|refine X.F ?_|refine X.G ?_|refine X.H ?_|refine X.I ?_|fail)
  refine WL.step (o_lit (us := sgn22.map St) (by rfl) (by rfl) rfl (by decide) sgn_one ?_)
  intro v1 w1 hown1 hbl1 hz1 _
  have h1 := h.below hbl1 hlt
  have hR1 := rdStr hown1
  have hc1 : Chg sb (sb + 1) w w1 := (Chg.of_below hbl1).none
  obtain ⟨a1, c1, hv1, _⟩ := hown1.shape
  rw [List.length_map, show sgn22.length = 22 from rfl] at hv1
  subst hv1
  repeat' (first|refine X.O ?_|refine X.A ?_|refine X.B ?_|refine X.C ?_|refine X.D ?_|refine X.E ?_|refine X.F ?_|refine X.G ?_|refine X.H ?_|refine X.I ?_|fail)
  refine WL.call (l01Next_exact h1 22 (by omega) (by omega)) ?_
  rintro _ w2 ⟨⟨y, rfl, hy0, hy1, _⟩, h2, hc2⟩
  obtain ⟨k, rfl⟩ : ∃ k : Nat, y = (k : Int) := ⟨y.toNat, by omega⟩
  have hk : k < 22 := by omega
  have hR2 := SL.chg ⟨fun _ _ _ _ _ _ _ _ h => h, fun _ _ _ _ _ _ _ _ _ _ h => h⟩ hR1 hc2 (by omega)
  refine WL.ixload (j := k) (a := St (sgn22.getD k [])) hR2 (sgn_get hk) ?_
  intro p u hu
  rw [show u = St (sgn22.getD k []) from hu]
  clear hu u
  have hcl := sgn_len hk
  obtain ⟨c, hc⟩ : ∃ c, sgn22.getD k [] = c := ⟨_, rfl⟩
  rw [hc] at hcl ⊢
  have hc02 := hc1.trans hc2
  repeat' (first|refine X.O ?_|refine X.A ?_|refine X.B ?_|refine X.C ?_|refine X.D ?_|refine X.E ?_|refine X.F ?_|refine X.G ?_|refine X.H ?_|refine X.I ?_|fail)
  refine WL.step (o_lenT (by rfl) ?_)
  repeat' (first|refine X.O ?_|refine X.A ?_|refine X.B ?_|refine X.C ?_|refine X.D ?_|refine X.E ?_|refine X.F ?_|refine X.G ?_|refine X.H ?_|refine X.I ?_|fail)
  first|refine X.J (fun _ => ?_) (fun _ => ?_)|refine X.L (fun _ => ?_) (fun _ => ?_)|refine X.M (fun _ => ?_) (fun _ => ?_)|refine X.R (fun _ => ?_) (fun _ => ?_)|fail
  · rename_i h0
    repeat' (first|refine X.O ?_|refine X.A ?_|refine X.B ?_|refine X.C ?_|refine X.D ?_|refine X.E ?_|refine X.F ?_|refine X.G ?_|refine X.H ?_|refine X.I ?_|fail)
    refine ⟨_, ret1 rfl (by rfl), ?_⟩
    refine ⟨⟨c, rfl, by omega⟩, ⟨1, Or.inl rfl, ?_⟩, hc02⟩
    rw [runG_one]
    exact h2
  rename_i h0
  repeat' (first|refine X.O ?_|refine X.A ?_|refine X.B ?_|refine X.C ?_|refine X.D ?_|refine X.E ?_|refine X.F ?_|refine X.G ?_|refine X.H ?_|refine X.I ?_|fail)
  refine WL.step (o_lenT (by rfl) ?_)
  refine WL.call (l01Next_exact h2 (t.length : Nat) (by omega) (by omega)) ?_
  rintro _ w3 ⟨⟨y3, rfl, hy30, hy31, _⟩, h3, hc3⟩
  obtain ⟨m, rfl⟩ : ∃ m : Nat, y3 = (m : Int) := ⟨y3.toNat, by omega⟩
  have hm : m < t.length := by omega
  have hc03 := hc02.trans hc3
  repeat' (first|refine X.O ?_|refine X.A ?_|refine X.B ?_|refine X.C ?_|refine X.D ?_|refine X.E ?_|refine X.F ?_|refine X.G ?_|refine X.H ?_|refine X.I ?_|fail)
  refine WL.call (l01Next_exact h3 3 (by omega) (by omega)) ?_
  rintro _ w4 ⟨⟨y4, rfl, hy40, hy41, _⟩, h4, hc4⟩
  have hc04 := hc03.trans hc4
  have h4' : SG sb (r - 3) (runG 3 g) w4 := by
    rw [show 3 = 1 + 1 + 1 from rfl, runG_add, runG_add, runG_one, runG_one, runG_one]
    rw [show r - (1 + 1 + 1) = r - 1 - 1 - 1 by omega]
    exact h4
  clear h h1 h2 h3 h4 hR1 hR2 hown1
  repeat' (first|refine X.O ?_|refine X.A ?_|refine X.B ?_|refine X.C ?_|refine X.D ?_|refine X.E ?_|refine X.F ?_|refine X.G ?_|refine X.H ?_|refine X.I ?_|fail)
  first|refine X.J (fun _ => ?_) (fun _ => ?_)|refine X.L (fun _ => ?_) (fun _ => ?_)|refine X.M (fun _ => ?_) (fun _ => ?_)|refine X.R (fun _ => ?_) (fun _ => ?_)|fail
  · repeat' (first|refine X.O ?_|refine X.A ?_|refine X.B ?_|refine X.C ?_|refine X.D ?_|refine X.E ?_|refine X.F ?_|refine X.G ?_|refine X.H ?_|refine X.I ?_|fail)
    refine WP.drawn (fun w' => w'.heap = w4.heap) [(0, true), (1, true), (2, true), (3, true), (4, true), (5, true), (6, true), (7, true), (8, true), (9, true), (10, true)] (by kernel_rfl) mixed ?_
    intro w5 hs5
    have hw5 : w5.heap = w4.heap := hs5.heap
    repeat' (first|refine X.U rfl ?_|refine X.V rfl ?_|refine X.W rfl ?_|refine X.Y rfl ?_|refine X.Z rfl ?_|refine WS.nil ?_|fail)
    refine WS.q rfl (q_sliceTh (i := m) (by rfl) (by rfl) (by omega)) hw5 ?_
    repeat' (first|refine X.U rfl ?_|refine X.V rfl ?_|refine X.W rfl ?_|refine X.Y rfl ?_|refine X.Z rfl ?_|refine WS.nil ?_|fail)
    refine WS.q rfl (q_cat (by rfl) (by rfl) (by simp; omega)) hw5 ?_
    repeat' (first|refine X.U rfl ?_|refine X.V rfl ?_|refine X.W rfl ?_|refine X.Y rfl ?_|refine X.Z rfl ?_|refine WS.nil ?_|fail)
    refine WS.q rfl (q_sliceTl (i := m + 1) (by rfl) (by rfl) (by omega)) hw5 ?_
    refine WS.q rfl (q_cat (by rfl) (by rfl) (by simp; omega)) hw5 ?_
    repeat' (first|refine X.U rfl ?_|refine X.V rfl ?_|refine X.W rfl ?_|refine X.Y rfl ?_|refine X.Z rfl ?_|refine WS.nil ?_|fail)
    repeat' (first|refine X.O ?_|refine X.A ?_|refine X.B ?_|refine X.C ?_|refine X.D ?_|refine X.E ?_|refine X.F ?_|refine X.G ?_|refine X.H ?_|refine X.I ?_|fail)
    refine ⟨_, ret1 rfl (by rfl), ?_⟩
    refine ⟨⟨_, rfl, ?_⟩, ⟨3, Or.inr rfl, h4'.below (hs5.below w4.heap.size) h4'.lt⟩, hc04.trans (Chg.of_still hs5).none⟩
    simp only [List.length_append, List.length_take, List.length_drop]
    omega
  repeat' (first|refine X.O ?_|refine X.A ?_|refine X.B ?_|refine X.C ?_|refine X.D ?_|refine X.E ?_|refine X.F ?_|refine X.G ?_|refine X.H ?_|refine X.I ?_|fail)
  first|refine X.J (fun _ => ?_) (fun _ => ?_)|refine X.L (fun _ => ?_) (fun _ => ?_)|refine X.M (fun _ => ?_) (fun _ => ?_)|refine X.R (fun _ => ?_) (fun _ => ?_)|fail
  · repeat' (first|refine X.O ?_|refine X.A ?_|refine X.B ?_|refine X.C ?_|refine X.D ?_|refine X.E ?_|refine X.F ?_|refine X.G ?_|refine X.H ?_|refine X.I ?_|fail)
    refine WP.drawn (fun w' => w'.heap = w4.heap) [(0, true), (1, true), (2, true), (3, true), (4, true), (5, true), (6, true), (7, true), (8, true)] (by kernel_rfl) mixed ?_
    intro w5 hs5
    have hw5 : w5.heap = w4.heap := hs5.heap
    repeat' (first|refine X.U rfl ?_|refine X.V rfl ?_|refine X.W rfl ?_|refine X.Y rfl ?_|refine X.Z rfl ?_|refine WS.nil ?_|fail)
    refine WS.q rfl (q_sliceTh (i := m) (by rfl) (by rfl) (by omega)) hw5 ?_
    repeat' (first|refine X.U rfl ?_|refine X.V rfl ?_|refine X.W rfl ?_|refine X.Y rfl ?_|refine X.Z rfl ?_|refine WS.nil ?_|fail)
    refine WS.q rfl (q_sliceTl (i := m + 1) (by rfl) (by rfl) (by omega)) hw5 ?_
    refine WS.q rfl (q_cat (by rfl) (by rfl) (by simp; omega)) hw5 ?_
    repeat' (first|refine X.U rfl ?_|refine X.V rfl ?_|refine X.W rfl ?_|refine X.Y rfl ?_|refine X.Z rfl ?_|refine WS.nil ?_|fail)
    repeat' (first|refine X.O ?_|refine X.A ?_|refine X.B ?_|refine X.C ?_|refine X.D ?_|refine X.E ?_|refine X.F ?_|refine X.G ?_|refine X.H ?_|refine X.I ?_|fail)
    refine ⟨_, ret1 rfl (by rfl), ?_⟩
    refine ⟨⟨_, rfl, ?_⟩, ⟨3, Or.inr rfl, h4'.below (hs5.below w4.heap.size) h4'.lt⟩, hc04.trans (Chg.of_still hs5).none⟩
    simp only [List.length_append, List.length_take, List.length_drop]
    omega
  repeat' (first|refine X.O ?_|refine X.A ?_|refine X.B ?_|refine X.C ?_|refine X.D ?_|refine X.E ?_|refine X.F ?_|refine X.G ?_|refine X.H ?_|refine X.I ?_|fail)
  refine WP.drawn (fun w' => w'.heap = w4.heap) [(0, true), (1, true), (2, true), (3, true), (4, true), (5, true), (6, true), (7, true), (8, true), (9, true)] (by kernel_rfl) mixed ?_
  intro w5 hs5
  have hw5 : w5.heap = w4.heap := hs5.heap
  repeat' (first|refine X.U rfl ?_|refine X.V rfl ?_|refine X.W rfl ?_|refine X.Y rfl ?_|refine X.Z rfl ?_|refine WS.nil ?_|fail)
  refine WS.q rfl (q_sliceTh (i := m) (by rfl) (by rfl) (by omega)) hw5 ?_
  repeat' (first|refine X.U rfl ?_|refine X.V rfl ?_|refine X.W rfl ?_|refine X.Y rfl ?_|refine X.Z rfl ?_|refine WS.nil ?_|fail)
  refine WS.q rfl (q_cat (by rfl) (by rfl) (by simp; omega)) hw5 ?_
  repeat' (first|refine X.U rfl ?_|refine X.V rfl ?_|refine X.W rfl ?_|refine X.Y rfl ?_|refine X.Z rfl ?_|refine WS.nil ?_|fail)
  refine WS.q rfl (q_sliceTl (i := m) (by rfl) (by rfl) (by omega)) hw5 ?_
  refine WS.q rfl (q_cat (by rfl) (by rfl) (by simp; omega)) hw5 ?_
  repeat' (first|refine X.U rfl ?_|refine X.V rfl ?_|refine X.W rfl ?_|refine X.Y rfl ?_|refine X.Z rfl ?_|refine WS.nil ?_|fail)
  repeat' (first|refine X.O ?_|refine X.A ?_|refine X.B ?_|refine X.C ?_|refine X.D ?_|refine X.E ?_|refine X.F ?_|refine X.G ?_|refine X.H ?_|refine X.I ?_|fail)
  refine ⟨_, ret1 rfl (by rfl), ?_⟩
  refine ⟨⟨_, rfl, ?_⟩, ⟨3, Or.inr rfl, h4'.below (hs5.below w4.heap.size) h4'.lt⟩, hc04.trans (Chg.of_still hs5).none⟩
  simp only [List.length_append, List.length_take, List.length_drop]
  omega
end Go.Proofs
