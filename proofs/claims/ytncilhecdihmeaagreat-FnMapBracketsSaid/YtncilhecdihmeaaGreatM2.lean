/- Short words of the laws: act9, bracket9, plus9; drawn pairs of maps. -/
import Derived.Test.YtncilhecdihmeaaGreatM1
import Derived.Test.YtncilhecdihmeaaGreatG26
import Derived.Test.YtncilhecdihmeaaGreatG21
import Derived.Test.YtncilhecdihmeaaGreatG12
import Derived.Test.YtncilhecdihmeaaGreatG24
set_option maxRecDepth 8000
namespace Go.Proofs
open Go Go.Fw Go.RowKit Go.Rk
theorem act9_any {lb hb lx hx : Nat} {w : World} {vb vx : Value} {b x y : List Int} (hB : IS lb hb w vb b) (hX : IS lx hx w vx x) (e : actOn b x = (y, 0)) :
    Does Tryz.prog 66 [vb, vx] w fun r w' => NewI w r w' y := by
  refine Does.enter Tryz.func66 Tryz.ntmps66 rfl (by rfl) ?_
  repeat' (first|refine X.O ?_|refine X.A ?_|refine X.B ?_|refine X.C ?_|refine X.D ?_|refine X.E ?_|refine X.F ?_|refine X.G ?_|refine X.H ?_|refine X.I ?_|fail)
  refine WL.call (ActOn_any hB hX) ?_
  rintro _ w1 ⟨v1, rfl, hN⟩
  rw [e] at hN ⊢
  repeat' (first|refine X.O ?_|refine X.A ?_|refine X.B ?_|refine X.C ?_|refine X.D ?_|refine X.E ?_|refine X.F ?_|refine X.G ?_|refine X.H ?_|refine X.I ?_|fail)
  try (refine WP.condD (by rfl) (fun hbad => False.elim (by first | exact hbad rfl | omega)) (fun _ => ?_))
  repeat' (first|refine X.O ?_|refine X.A ?_|refine X.B ?_|refine X.C ?_|refine X.D ?_|refine X.E ?_|refine X.F ?_|refine X.G ?_|refine X.H ?_|refine X.I ?_|fail)
  refine ⟨_, ret1 rfl (by rfl), ?_⟩
  exact hN
theorem bracket9_any {lb hb lx hx : Nat} {w : World} {vb vx : Value} {b x y : List Int} (hB : IS lb hb w vb b) (hX : IS lx hx w vx x) (e : bracketOf b x = (y, 0)) :
    Does Tryz.prog 65 [vb, vx] w fun r w' => NewI w r w' y := by
  refine Does.enter Tryz.func65 Tryz.ntmps65 rfl (by rfl) ?_
  repeat' (first|refine X.O ?_|refine X.A ?_|refine X.B ?_|refine X.C ?_|refine X.D ?_|refine X.E ?_|refine X.F ?_|refine X.G ?_|refine X.H ?_|refine X.I ?_|fail)
  refine WL.call (BracketOf_any hB hX) ?_
  rintro _ w1 ⟨v1, rfl, hN⟩
  rw [e] at hN ⊢
  repeat' (first|refine X.O ?_|refine X.A ?_|refine X.B ?_|refine X.C ?_|refine X.D ?_|refine X.E ?_|refine X.F ?_|refine X.G ?_|refine X.H ?_|refine X.I ?_|fail)
  try (refine WP.condD (by rfl) (fun hbad => False.elim (by first | exact hbad rfl | omega)) (fun _ => ?_))
  repeat' (first|refine X.O ?_|refine X.A ?_|refine X.B ?_|refine X.C ?_|refine X.D ?_|refine X.E ?_|refine X.F ?_|refine X.G ?_|refine X.H ?_|refine X.I ?_|fail)
  refine ⟨_, ret1 rfl (by rfl), ?_⟩
  exact hN
theorem plus9_any {lb hb lx hx : Nat} {w : World} {va vb : Value} {a b : List Int} {k k' : Int} (hA : IS lx hx w va a) (hB : IS lb hb w vb b) (ha : isMap a = true) (hb : isMap b = true) (hk : k' = nm k) :
    Does Tryz.prog 64 [va, vb, .int .i64 k] w fun r w' => NewI w r w' (plusL a (scaledL b k') 1) := by
  subst hk
  have hzA := hA.hi_le
  refine Does.enter Tryz.func64 Tryz.ntmps64 rfl (by rfl) ?_
  repeat' (first|refine X.O ?_|refine X.A ?_|refine X.B ?_|refine X.C ?_|refine X.D ?_|refine X.E ?_|refine X.F ?_|refine X.G ?_|refine X.H ?_|refine X.I ?_|fail)
  refine WL.call (mod9_any k _) ?_
  rintro _ _ ⟨rfl, rfl⟩
  refine WL.call (MultiplyMap_any hB (nm k)) ?_
  rintro _ w1 ⟨v1, rfl, hN1⟩
  have e1 : multiplyMap b (nm k) = (scaledL b (nm k), 0) := by unfold multiplyMap; rw [hb, nm_isN]; rfl
  rw [e1] at hN1 ⊢
  repeat' (first|refine X.O ?_|refine X.A ?_|refine X.B ?_|refine X.C ?_|refine X.D ?_|refine X.E ?_|refine X.F ?_|refine X.G ?_|refine X.H ?_|refine X.I ?_|fail)
  refine WL.call (AddMaps_any (hA.below RI.stable hN1.2 hzA) (hN1.1.toIS (Nat.zero_le _))) ?_
  rintro _ w2 ⟨v2, rfl, hN2⟩
  have hs : isMap (scaledL b (nm k)) = true := by
    unfold isMap
    rw [Bool.and_eq_true, decide_eq_true_eq, scaledL_length]
    exact ⟨isMap_38 hb, allN_of fun y hy => by
      obtain ⟨z, _, rfl⟩ := List.mem_map.1 hy
      exact nm_isN _⟩
  have e2 : addMaps a (scaledL b (nm k)) = (plusL a (scaledL b (nm k)) 1, 0) := by unfold addMaps; rw [if_pos ⟨ha, hs⟩]
  rw [e2] at hN2 ⊢
  repeat' (first|refine X.O ?_|refine X.A ?_|refine X.B ?_|refine X.C ?_|refine X.D ?_|refine X.E ?_|refine X.F ?_|refine X.G ?_|refine X.H ?_|refine X.I ?_|fail)
  try (refine WL.gsplitD (by rfl) (by rfl) (by rfl) (fun hbad => False.elim (by first | exact hbad rfl | omega)) (fun _ => ?_))
  repeat' (first|refine X.O ?_|refine X.A ?_|refine X.B ?_|refine X.C ?_|refine X.D ?_|refine X.E ?_|refine X.F ?_|refine X.G ?_|refine X.H ?_|refine X.I ?_|fail)
  try (refine WP.condD (by rfl) (fun hbad => False.elim (by first | exact hbad rfl | omega)) (fun _ => ?_))
  repeat' (first|refine X.O ?_|refine X.A ?_|refine X.B ?_|refine X.C ?_|refine X.D ?_|refine X.E ?_|refine X.F ?_|refine X.G ?_|refine X.H ?_|refine X.I ?_|fail)
  refine ⟨_, ret1 rfl (by rfl), ?_⟩
  exact hN2.trans hN1.2
/-- A map that the call owns, perhaps without its first value. -/
def OwD (lo : Nat) (w : World) (v : Value) (xs : List Int) : Prop := ∃ (g c i : Nat) (us : List Int), Own lo 2 w (.slice (some ⟨g, 0, none⟩) 38 c) (Ints us) ∧ i ≤ 1 ∧ us.length = 38 ∧ v = .slice (some ⟨g, i, none⟩) (38 - i) (c - i) ∧ xs = us.drop i
theorem OwD.len {lo : Nat} {w : World} {v : Value} {xs : List Int} (h : OwD lo w v xs) : 1 ≤ xs.length ∧ xs.length ≤ 38 := by
  obtain ⟨g, c, i, us, _, hi, hl, _, rfl⟩ := h
  rw [List.length_drop]; omega
theorem own_some {lo : Nat} {w : World} {v : Value} {us : List Int} (h : Own lo 2 w v (Ints us)) (hl : us.length = 38) : ∃ g c, v = .slice (some ⟨g, 0, none⟩) 38 c ∧ 38 ≤ c := by
  obtain ⟨g, c, hv, _⟩ := h.cell (i := 0) (u := .int .i64 (us[0]'(by omega))) (by rw [Ints_get, List.getElem?_eq_getElem (by omega)]; rfl)
  obtain ⟨a, c', hv2, hc, _, _⟩ := h.shape
  rw [hv] at hv2
  simp only [Value.slice.injEq] at hv2
  rw [Ints_length] at hv hc
  exact ⟨g, c, by rw [hv, hl], by rw [hv2.2.2]; omega⟩
theorem OwD.whole {lo : Nat} {w : World} {v : Value} {us : List Int} (h : Own lo 2 w v (Ints us)) (hl : us.length = 38) : OwD lo w v us := by
  obtain ⟨g, c, rfl, _⟩ := own_some h hl
  exact ⟨g, c, 0, us, h, by omega, hl, rfl, rfl⟩
theorem OwD.tail {lo : Nat} {w : World} {a : Option Addr} {c : Nat} {us : List Int} (h : Own lo 2 w (.slice a 38 c) (Ints us)) (hl : us.length = 38) : OwD lo w (.slice (lowAddr a c 1) (38 - 1) (c - 1)) (us.drop 1) := by
  obtain ⟨g, c', hv, hc⟩ := own_some h hl
  simp only [Value.slice.injEq] at hv
  obtain ⟨rfl, _, rfl⟩ := hv
  refine ⟨g, c, 1, us, h, by omega, hl, ?_, rfl⟩
  unfold lowAddr
  rw [if_neg (by omega)]
  rfl
theorem OwD.keep {lo : Nat} {w w' : World} {v : Value} {xs : List Int} (h : OwD lo w v xs) (hs : ∀ k, lo ≤ k → k < w.heap.size → w'.heap[k]? = w.heap[k]?) : OwD lo w' v xs := by
  obtain ⟨g, c, i, us, ho, r⟩ := h
  exact ⟨g, c, i, us, ho.keep fun k hk => hs k (ho.block k hk).1 (ho.block k hk).2, r⟩
theorem OwD.lower {lo lo' : Nat} {w : World} {v : Value} {xs : List Int} (h : OwD lo w v xs) (hl : lo' ≤ lo) : OwD lo' w v xs := by
  obtain ⟨g, c, i, us, ho, r⟩ := h
  exact ⟨g, c, i, us, ho.lower hl, r⟩
theorem OwD.drew {sb lo : Nat} {w w' : World} {v : Value} {xs : List Int} (h : OwD lo w v xs) (hd : Drew sb w w') (hs : sb < lo) : OwD lo w' v xs := by
  obtain ⟨g, c, i, us, ho, r⟩ := h
  exact ⟨g, c, i, us, drew_own ho hd hs, r⟩
theorem OwD.below {lo B : Nat} {w w' : World} {v : Value} {xs : List Int} (h : OwD lo w v xs) (hb : Below B w w') (hB : w.heap.size ≤ B) : OwD lo w' v xs := by
  obtain ⟨g, c, i, us, ho, r⟩ := h
  exact ⟨g, c, i, us, ho.below hb hB, r⟩
theorem OwD.toIS {lo lo' : Nat} {w : World} {v : Value} {xs : List Int} (h : OwD lo w v xs) (hl : lo' ≤ lo) : IS lo' w.heap.size w v xs := by
  obtain ⟨g, c, i, us, ho, hi, hus, rfl, rfl⟩ := h
  obtain ⟨_, c', hv, hc⟩ := own_some ho hus
  simp only [Value.slice.injEq] at hv
  obtain ⟨_, _, rfl⟩ := hv
  have h2 := (ho.toIS hl).drop (i := i) (by omega)
  unfold lowAddr at h2
  rw [if_neg (by omega)] at h2
  have e : (⟨g, i, none⟩ : Addr) = (⟨g, 0, none⟩ : Addr).add i := by
    rcases (by omega : i = 0 ∨ i = 1) with rfl | rfl <;> rfl
  rw [e]
  exact h2
end Go.Proofs
namespace Go.Fw
open Go Go.RowKit Go.Rk Go.Proofs
section
variable {P : Program} {N : Nat} {Q : Exit → Fr → World → Prop} {l : Fr} {w : World} {ops : Array Oper}
/-- x[0] = u, x a map that is owned, perhaps without its first value. -/
theorem WL.ixstoreD {t t2 : TypeId} {z : Value} {bytes : Nat} [SliceTy P t 2 z bytes] [CellTy P t2] {x y x2 y2 : Operand} {kk : IntKind} {i : Int} {d1 lo : Nat} {v : Value} {z0 : Int} {xs : List Int} {ty1 ty2 : TypeId} {pos1 pos2 : String} {af1 af2 : Array Edge} {rest : List Oper}
    (hown : OwD lo w v xs)
    (k : ∀ p w1, OwD lo w1 v (xs.set 0 z0) → Below lo w w1 → w1.heap.size = w.heap.size → (∀ k, v.ownBlock ≠ some k → w1.heap[k]? = w.heap[k]?) → WL P N ops Q rest ((d1, p) :: l) w1)
    (hx : ev l x = some v := by rfl) (hy : ev l y = some (.int kk i) := by rfl) (hij : i = 0 := by first | rfl | omega) (hy2 : ∀ p, ev ((d1, p) :: l) y2 = some (.int .i64 z0) := by intro _; rfl) (h2 : x2 = .tmp d1 := by rfl)
    (hd1 : Nat.blt d1 N = true := by rfl) :
    WL P N ops Q (⟨some d1, .indexAddr t x y, ty1, pos1, af1, none⟩ :: ⟨none, .store t2 x2 y2, ty2, pos2, af2, none⟩ :: rest) l w := by
  subst h2
  obtain ⟨g, c, o, us, ho, hi, hus, rfl, rfl⟩ := hown
  have hlt : o < us.length := by omega
  obtain ⟨g', c', hv, hg1, hg2, hcell, hfz, hob⟩ := ho.cell (i := o) (u := .int .i64 us[o]) (by rw [Ints_get, List.getElem?_eq_getElem hlt]; rfl)
  simp only [Value.slice.injEq, Option.some.injEq, Addr.mk.injEq] at hv
  obtain ⟨⟨rfl, _⟩, _, rfl⟩ := hv
  subst hij
  refine WL.step (o_ix hx hy (by omega) (by omega) ?_ rfl hd1)
  rw [Int.toNat_zero, Nat.add_zero]
  refine WL.step (o_store (look_cons_self _ _ _) (hy2 _) hcell hfz ?_ rfl rfl)
  refine k _ _ ?_ ((But.setCell w g o _).below hg1) (by simp) (fun k hk => (But.setCell w g o _).block k (fun e => hk (by rw [e]; rfl)))
  refine ⟨g, c, o, us.set o z0, ?_, hi, by rw [List.length_set]; exact hus, rfl, ?_⟩
  · rw [← Ints_set]; exact Own.setCell ho o (.int .i64 z0)
  · rw [List.drop_set, if_neg (by omega), Nat.sub_self]
end
end Go.Fw
namespace Go.Proofs
open Go Go.Fw Go.RowKit Go.Rk
theorem l07DrawAny_own {sb : Nat} {w : World} (h : Srce sb w) : Does Tryz.prog 80 [.pointer (some ⟨sb, 0, none⟩)] w fun r w' => (∃ xs, OwD w.heap.size w' r xs) ∧ Drew sb w w' := by
  have hlt := h.lt
  refine Does.enter Tryz.func80 Tryz.ntmps80 rfl (by rfl) ?_
  repeat' (first|refine X.O ?_|refine X.A ?_|refine X.B ?_|refine X.C ?_|refine X.D ?_|refine X.E ?_|refine X.F ?_|refine X.G ?_|refine X.H ?_|refine X.I ?_|fail)
  refine WL.call (l07Draw_any h 1 (by kernel_rfl)) ?_
  rintro v1 w1 ⟨⟨xs, hown1, h1, h38⟩, hd1⟩
  have hz1 := hd1.chg.size
  obtain ⟨a1, c1, hv1, _⟩ := hown1.shape
  rw [Ints_length, h38] at hv1
  subst hv1
  repeat' (first|refine X.O ?_|refine X.A ?_|refine X.B ?_|refine X.C ?_|refine X.D ?_|refine X.E ?_|refine X.F ?_|refine X.G ?_|refine X.H ?_|refine X.I ?_|fail)
  refine WL.call (l01Next_any hd1.src 24 (by omega)) ?_
  rintro _ w2 ⟨⟨y, rfl, _, _⟩, hd2⟩
  have hd02 := hd1.trans hd2
  have hz2 := hd02.chg.size
  have hown2 := drew_own hown1 hd2 hlt
  repeat' (first|refine X.O ?_|refine X.A ?_|refine X.B ?_|refine X.C ?_|refine X.D ?_|refine X.E ?_|refine X.F ?_|refine X.G ?_|refine X.H ?_|refine X.I ?_|fail)
  first|refine X.J (fun _ => ?_) (fun _ => ?_)|refine X.L (fun _ => ?_) (fun _ => ?_)|refine X.M (fun _ => ?_) (fun _ => ?_)|refine X.R (fun _ => ?_) (fun _ => ?_)|fail
  · repeat' (first|refine X.O ?_|refine X.A ?_|refine X.B ?_|refine X.C ?_|refine X.D ?_|refine X.E ?_|refine X.F ?_|refine X.G ?_|refine X.H ?_|refine X.I ?_|fail)
    refine WL.call (l01Next_any hd02.src 3 (by omega)) ?_
    rintro _ w3 ⟨⟨k, rfl, _, _⟩, hd3⟩
    have hown3 := drew_own hown2 hd3 hlt
    have hd03 := hd02.trans hd3
    have hz3 := hd03.chg.size
    refine WL.ixstore (j := 0) (u := .int .i64 k) hown3 (by rw [Ints_length]; omega) ?_
    intro p1 w4 hown4 hbl4 hz4 hf4
    rw [Ints_set] at hown4
    repeat' (first|refine X.O ?_|refine X.A ?_|refine X.B ?_|refine X.C ?_|refine X.D ?_|refine X.E ?_|refine X.F ?_|refine X.G ?_|refine X.H ?_|refine X.I ?_|fail)
    refine ⟨_, ret1 rfl (by rfl), ?_⟩
    exact ⟨⟨_, OwD.whole hown4 (by rw [List.length_set]; omega)⟩, hd03.into hbl4 (Nat.le_refl _) hlt⟩
  · repeat' (first|refine X.O ?_|refine X.A ?_|refine X.B ?_|refine X.C ?_|refine X.D ?_|refine X.E ?_|refine X.F ?_|refine X.G ?_|refine X.H ?_|refine X.I ?_|fail)
    first|refine X.J (fun _ => ?_) (fun _ => ?_)|refine X.L (fun _ => ?_) (fun _ => ?_)|refine X.M (fun _ => ?_) (fun _ => ?_)|refine X.R (fun _ => ?_) (fun _ => ?_)|fail
    · repeat' (first|refine X.O ?_|refine X.A ?_|refine X.B ?_|refine X.C ?_|refine X.D ?_|refine X.E ?_|refine X.F ?_|refine X.G ?_|refine X.H ?_|refine X.I ?_|fail)
      refine WL.call (l01Next_any hd02.src 38 (by omega)) ?_
      rintro _ w3 ⟨⟨j, rfl, _, hj⟩, hd3⟩
      have hj37 := hj (by omega)
      have hown3 := drew_own hown2 hd3 hlt
      have hd03 := hd02.trans hd3
      repeat' (first|refine X.O ?_|refine X.A ?_|refine X.B ?_|refine X.C ?_|refine X.D ?_|refine X.E ?_|refine X.F ?_|refine X.G ?_|refine X.H ?_|refine X.I ?_|fail)
      refine WL.call (l01Spoil_any hd03.src) ?_
      rintro _ w4 ⟨⟨k, rfl⟩, hd4⟩
      have hown4 := drew_own hown3 hd4 hlt
      have hd04 := hd03.trans hd4
      have hz4 := hd04.chg.size
      refine WL.ixstore (j := j.toNat) (u := .int .i64 k) hown4 (by rw [Ints_length]; omega) ?_
      intro p1 w5 hown5 hbl5 hz5 hf5
      rw [Ints_set] at hown5
      repeat' (first|refine X.O ?_|refine X.A ?_|refine X.B ?_|refine X.C ?_|refine X.D ?_|refine X.E ?_|refine X.F ?_|refine X.G ?_|refine X.H ?_|refine X.I ?_|fail)
      refine ⟨_, ret1 rfl (by rfl), ?_⟩
      exact ⟨⟨_, OwD.whole hown5 (by rw [List.length_set]; omega)⟩, hd04.into hbl5 (Nat.le_refl _) hlt⟩
    · repeat' (first|refine X.O ?_|refine X.A ?_|refine X.B ?_|refine X.C ?_|refine X.D ?_|refine X.E ?_|refine X.F ?_|refine X.G ?_|refine X.H ?_|refine X.I ?_|fail)
      first|refine X.J (fun _ => ?_) (fun _ => ?_)|refine X.L (fun _ => ?_) (fun _ => ?_)|refine X.M (fun _ => ?_) (fun _ => ?_)|refine X.R (fun _ => ?_) (fun _ => ?_)|fail
      · repeat' (first|refine X.O ?_|refine X.A ?_|refine X.B ?_|refine X.C ?_|refine X.D ?_|refine X.E ?_|refine X.F ?_|refine X.G ?_|refine X.H ?_|refine X.I ?_|fail)
        refine WL.step (o_sliceL (i := 1) (by rfl) (by rfl) (by omega) ?_)
        repeat' (first|refine X.O ?_|refine X.A ?_|refine X.B ?_|refine X.C ?_|refine X.D ?_|refine X.E ?_|refine X.F ?_|refine X.G ?_|refine X.H ?_|refine X.I ?_|fail)
        refine ⟨_, ret1 rfl (by rfl), ?_⟩
        exact ⟨⟨_, OwD.tail hown2 h38⟩, hd02⟩
      · repeat' (first|refine X.O ?_|refine X.A ?_|refine X.B ?_|refine X.C ?_|refine X.D ?_|refine X.E ?_|refine X.F ?_|refine X.G ?_|refine X.H ?_|refine X.I ?_|fail)
        refine ⟨_, ret1 rfl (by rfl), ?_⟩
        exact ⟨⟨_, OwD.whole hown2 h38⟩, hd02⟩
theorem l08Draw_any {sb : Nat} {w : World} (h : Srce sb w) : Does Tryz.prog 117 [.pointer (some ⟨sb, 0, none⟩)] w fun r w' => (∃ xs, OwD w.heap.size w' r xs) ∧ Drew sb w w' := by
  have hlt := h.lt
  refine Does.enter Tryz.func117 Tryz.ntmps117 rfl (by rfl) ?_
  repeat' (first|refine X.O ?_|refine X.A ?_|refine X.B ?_|refine X.C ?_|refine X.D ?_|refine X.E ?_|refine X.F ?_|refine X.G ?_|refine X.H ?_|refine X.I ?_|fail)
  refine WL.call (l07DrawAny_own h) ?_
  rintro v1 w1 ⟨⟨xs, hx⟩, hd1⟩
  have hz1 := hd1.chg.size
  repeat' (first|refine X.O ?_|refine X.A ?_|refine X.B ?_|refine X.C ?_|refine X.D ?_|refine X.E ?_|refine X.F ?_|refine X.G ?_|refine X.H ?_|refine X.I ?_|fail)
  refine WL.call (l01Next_any hd1.src 20 (by omega)) ?_
  rintro _ w2 ⟨⟨y, rfl, _, _⟩, hd2⟩
  have hd02 := hd1.trans hd2
  have hz2 := hd2.chg.size
  have hx2 := hx.drew hd2 hlt
  repeat' (first|refine X.O ?_|refine X.A ?_|refine X.B ?_|refine X.C ?_|refine X.D ?_|refine X.E ?_|refine X.F ?_|refine X.G ?_|refine X.H ?_|refine X.I ?_|fail)
  first|refine X.J (fun _ => ?_) (fun _ => ?_)|refine X.L (fun _ => ?_) (fun _ => ?_)|refine X.M (fun _ => ?_) (fun _ => ?_)|refine X.R (fun _ => ?_) (fun _ => ?_)|fail
  · repeat' (first|refine X.O ?_|refine X.A ?_|refine X.B ?_|refine X.C ?_|refine X.D ?_|refine X.E ?_|refine X.F ?_|refine X.G ?_|refine X.H ?_|refine X.I ?_|fail)
    refine WL.ixstoreD (z0 := 0) hx2 ?_
    intro p w3 hx3 hbl3 hz3 _
    repeat' (first|refine X.O ?_|refine X.A ?_|refine X.B ?_|refine X.C ?_|refine X.D ?_|refine X.E ?_|refine X.F ?_|refine X.G ?_|refine X.H ?_|refine X.I ?_|fail)
    refine ⟨_, ret1 rfl (by rfl), ?_⟩
    exact ⟨⟨_, hx3⟩, hd02.into hbl3 (Nat.le_refl _) hlt⟩
  · repeat' (first|refine X.O ?_|refine X.A ?_|refine X.B ?_|refine X.C ?_|refine X.D ?_|refine X.E ?_|refine X.F ?_|refine X.G ?_|refine X.H ?_|refine X.I ?_|fail)
    refine ⟨_, ret1 rfl (by rfl), ?_⟩
    exact ⟨⟨_, hx2⟩, hd02⟩
theorem l08DrawTwo_any {lo hi : Nat} {w : World} {v : Value} {bs : List Int} (h : IU lo hi w v bs) (hn : bs.length ≤ 4096) :
    Does Tryz.prog 114 [v] w fun r w' => (∃ v5 v6 xs ys, r = .tuple #[v5, v6] ∧ IS w.heap.size w'.heap.size w' v5 xs ∧ IS w.heap.size w'.heap.size w' v6 ys) ∧ Below w.heap.size w w' := by
  refine Does.enter Tryz.func114 Tryz.ntmps114 rfl (by rfl) ?_
  repeat' (first|refine X.O ?_|refine X.A ?_|refine X.B ?_|refine X.C ?_|refine X.D ?_|refine X.E ?_|refine X.F ?_|refine X.G ?_|refine X.H ?_|refine X.I ?_|fail)
  refine WL.call (l01From_any h hn) ?_
  rintro _ w1 ⟨rfl, hsrc1, hc1⟩
  have hz1 := hc1.size
  have hlt1 := hsrc1.lt
  have hbl1 : Below w.heap.size w w1 := hc1.below (by omega) (Or.inr (Nat.le_refl _))
  obtain ⟨sb, hsb⟩ : ∃ sb, w.heap.size = sb := ⟨_, rfl⟩
  rw [hsb] at hsrc1 hlt1 ⊢
  have fin : ∀ wz, Drew sb w1 wz → Below sb w wz := fun wz hd => by
    rw [hsb] at hbl1
    exact hbl1.trans (hd.chg.below (by omega) (Or.inl (Nat.le_refl _)))
  repeat' (first|refine X.O ?_|refine X.A ?_|refine X.B ?_|refine X.C ?_|refine X.D ?_|refine X.E ?_|refine X.F ?_|refine X.G ?_|refine X.H ?_|refine X.I ?_|fail)
  refine WL.call (l08Draw_any hsrc1) ?_
  rintro v5 w2 ⟨⟨xs, hx⟩, hd2⟩
  have hz2 := hd2.chg.size
  repeat' (first|refine X.O ?_|refine X.A ?_|refine X.B ?_|refine X.C ?_|refine X.D ?_|refine X.E ?_|refine X.F ?_|refine X.G ?_|refine X.H ?_|refine X.I ?_|fail)
  refine WL.call (l08Draw_any hd2.src) ?_
  rintro v6 w3 ⟨⟨ys, hy⟩, hd3⟩
  have hz3 := hd3.chg.size
  have hx3 := hx.drew hd3 hlt1
  repeat' (first|refine X.O ?_|refine X.A ?_|refine X.B ?_|refine X.C ?_|refine X.D ?_|refine X.E ?_|refine X.F ?_|refine X.G ?_|refine X.H ?_|refine X.I ?_|fail)
  refine ⟨_, ret2 rfl (by rfl) (by rfl), ?_⟩
  exact ⟨⟨_, _, _, _, rfl, hx3.toIS (by omega), hy.toIS (by omega)⟩, fin _ (hd2.trans hd3)⟩
theorem DrawBracketOf_any {lo hi : Nat} {w : World} {v : Value} {bs : List Int} (h : IU lo hi w v bs) (hn : bs.length ≤ 4096) :
    Does Tryz.prog 63 [v] w fun r w' => (∃ v5 v6 xs ys, r = .tuple #[v5, v6] ∧ IS w.heap.size w'.heap.size w' v5 xs ∧ IS w.heap.size w'.heap.size w' v6 ys) ∧ Below w.heap.size w w' := by
  refine Does.enter Tryz.func63 Tryz.ntmps63 rfl (by rfl) ?_
  repeat' (first|refine X.O ?_|refine X.A ?_|refine X.B ?_|refine X.C ?_|refine X.D ?_|refine X.E ?_|refine X.F ?_|refine X.G ?_|refine X.H ?_|refine X.I ?_|fail)
  refine WL.call (l08DrawTwo_any h hn) ?_
  rintro _ w1 ⟨⟨v5, v6, xs, ys, rfl, hx, hy⟩, hbl⟩
  repeat' (first|refine X.O ?_|refine X.A ?_|refine X.B ?_|refine X.C ?_|refine X.D ?_|refine X.E ?_|refine X.F ?_|refine X.G ?_|refine X.H ?_|refine X.I ?_|fail)
  refine ⟨_, ret2 rfl (by rfl) (by rfl), ?_⟩
  exact ⟨⟨_, _, _, _, rfl, hx, hy⟩, hbl⟩
end Go.Proofs
