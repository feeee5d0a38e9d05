/- Regions in which two operations that do something are ready at a time: a tree of orders. -/
import Derived.Test.YtgjpdjblchgfdaaH5
namespace Go.Fw
open Go Go.RowKit

/-- What may come next: q: an operation that only looks, taken first; o: the only one that is ready; two: two are ready, and both orders are walked. -/
inductive Tr where
  | nil
  | q (i : Nat) (s : Tr)
  | o (i : Nat) (s : Tr)
  | two (i : Nat) (s : Tr) (j : Nat) (t : Tr)
def Tr.len : Tr → Nat
  | .nil => 0
  | .q _ s => s.len + 1
  | .o _ s => s.len + 1
  | .two _ s _ _ => s.len + 1
def Tr.ok (ops : Array Oper) : Tr → Array Bool → Bool
  | .nil, listed => (Region.ready .any ops listed).isEmpty
  | .q i s, listed => (Region.ready .any ops listed).contains i && Region.free .any ops listed i && s.ok ops (listed.setIfInBounds i true)
  | .o i s, listed => decide (Region.ready .any ops listed = [i]) && s.ok ops (listed.setIfInBounds i true)
  | .two i s j t, listed => decide (Region.ready .any ops listed = [i, j]) && decide (s.len = t.len) && s.ok ops (listed.setIfInBounds i true) && t.ok ops (listed.setIfInBounds j true)
def trGood (ops : Array Oper) (t : Tr) : Bool := Region.noSelect ops && decide (t.len = ops.size) && t.ok ops (Array.replicate ops.size false)

def wpTr (P : Program) (ops : Array Oper) (Q : Exit → Act → World → Prop) (S : World → Prop) : Tr → Act → World → Prop
  | .nil, a, w => Q .normal a w
  | .q i s, a, w => ∃ o v, ops[i]? = some o ∧ YieldsIf P ops S o v a ∧ S w ∧ wpTr P ops Q S s (a.put o.dst v) w
  | .o i s, a, w => wpOp P ops Q i (fun a' w' => S w' ∧ wpTr P ops Q S s a' w') a w
  | .two i s j t, a, w => wpOp P ops Q i (fun a' w' => S w' ∧ wpTr P ops Q S s a' w') a w ∧ wpOp P ops Q j (fun a' w' => S w' ∧ wpTr P ops Q S t a' w') a w

theorem wpAnyH_of_tr {P : Program} {ops : Array Oper} {Q : Exit → Act → World → Prop} {S : World → Prop} (hQ : ∀ c a w, ¬ Q (.panic c) a w) (hs : Region.noSelect ops = true) :
    ∀ (t : Tr) (listed : Array Bool) (a : Act) (w : World), t.ok ops listed = true → wpTr P ops Q S t a w → wpAnyH P .any ops Q S t.len listed a w
  | .nil, listed, a, w, h, hw => ⟨by simpa [Tr.ok] using h, hw⟩
  | .q i s, listed, a, w, h, hw => by
    simp only [Tr.ok, Bool.and_eq_true] at h
    obtain ⟨o, v, hi, hy, hS, hk⟩ := hw
    exact wpAnyH_take hi hs h.1.2 h.1.1 (fun c a w hq => absurd hq (hQ c _ w)) hy hS (wpAnyH_of_tr hQ hs s _ _ _ h.2 hk)
  | .o i s, listed, a, w, h, hw => by
    simp only [Tr.ok, Bool.and_eq_true, decide_eq_true_eq] at h
    refine wpAnyH_all h.1 (by simp) fun j hj => ?_
    simp only [List.mem_singleton] at hj
    subst hj
    exact wpOp_mono (fun a' w' hk => ⟨hk.1, wpAnyH_of_tr hQ hs s _ _ _ h.2 hk.2⟩) hw
  | .two i s j t, listed, a, w, h, hw => by
    simp only [Tr.ok, Bool.and_eq_true, decide_eq_true_eq] at h
    refine wpAnyH_all h.1.1.1 (by simp) fun m hm => ?_
    simp only [List.mem_cons, List.not_mem_nil, or_false] at hm
    rcases hm with rfl | rfl
    · exact wpOp_mono (fun a' w' hk => ⟨hk.1, wpAnyH_of_tr hQ hs s _ _ _ h.1.2 hk.2⟩) hw.1
    · exact wpOp_mono (fun a' w' hk => ⟨hk.1, by rw [h.1.1.2]; exact wpAnyH_of_tr hQ hs t _ _ _ h.2 hk.2⟩) hw.2

def WT (P : Program) (N : Nat) (ops : Array Oper) (Q : Exit → Fr → World → Prop) (S : World → Prop) (t : Tr) (l : Fr) (w : World) : Prop :=
  ∀ a, Rep N a l → wpTr P ops (lft N Q) S t a w

section
variable {P : Program} {N : Nat} {Q : Exit → Fr → World → Prop} {S : World → Prop} {l : Fr} {w : World} {ops : Array Oper} {s t : Tr}
theorem WP.forked {id : Nat} {ops : List Oper} (S : World → Prop) (t : Tr) (hg : trGood ops.toArray t = true) (hm : P.follows .mixedOrders = true)
    (h : ∀ w1, Still w w1 → WT P N ops.toArray Q S t l w1) : WP P N (.region id ops.toArray true) Q l w := fun a ha => by
  simp only [trGood, Bool.and_eq_true, decide_eq_true_eq] at hg
  refine wp_region_held (S := S) hm ?_
  have := wpAnyH_of_tr (P := P) (Q := lft N Q) (S := S) (fun c a w h => h) hg.1.1 t _ a _ hg.2 (h w.drew (Still.drew w) a ha)
  rw [hg.1.2] at this
  exact this
theorem WT.nil (h : Q .normal l w) : WT P N ops Q S .nil l w := fun _ ha => ⟨l, ha, h⟩
theorem WT.q {i d : Nat} {o : Oper} {v : Value} (hi : ops[i]? = some o) (hq : QW P N ops S o l d v) (hS : S w) (k : WT P N ops Q S s ((d, v) :: l) w) : WT P N ops Q S (.q i s) l w := fun a ha => by
  refine ⟨o, v, hi, hq.2.2 a ha, hS, ?_⟩
  rw [hq.1]
  exact k _ (ha.put hq.2.1 v)
theorem wpOp_lift {i : Nat} {o : Oper} {K : Act → World → Prop} {K' : Fr → World → Prop} (hi : ops[i]? = some o) (h : OpW P N ops Q o l w K') (hK : ∀ a l w, Rep N a l → K' l w → K a w) {a : Act} (ha : Rep N a l) : wpOp P ops (lft N Q) i K a w := by
  unfold wpOp
  rw [hi]
  exact h a ha _ (fun a' l' w' ha' hk => hK a' l' w' ha' hk)
theorem WT.o {i : Nat} {o : Oper} (hi : ops[i]? = some o) (h : OpW P N ops Q o l w (fun l' w' => S w' ∧ WT P N ops Q S s l' w')) : WT P N ops Q S (.o i s) l w := fun _ ha =>
  wpOp_lift hi h (fun a' _ _ ha' hk => ⟨hk.1, hk.2 a' ha'⟩) ha
theorem WT.two {i j : Nat} {o o' : Oper} (hi : ops[i]? = some o) (hj : ops[j]? = some o') (h : OpW P N ops Q o l w (fun l' w' => S w' ∧ WT P N ops Q S s l' w')) (h' : OpW P N ops Q o' l w (fun l' w' => S w' ∧ WT P N ops Q S t l' w')) :
    WT P N ops Q S (.two i s j t) l w := fun _ ha =>
  ⟨wpOp_lift hi h (fun a' _ _ ha' hk => ⟨hk.1, hk.2 a' ha'⟩) ha, wpOp_lift hj h' (fun a' _ _ ha' hk => ⟨hk.1, hk.2 a' ha'⟩) ha⟩
theorem WT.fld {m m' s' t' f off b d1 d2 : Nat} [FieldTy P s' f off] [CellTy P t'] {x x2 : Operand} {cs : List Value} {tt : TypeId} {v : Value} {ty1 ty2 : TypeId} {pos1 pos2 : String} {af1 af2 : Array Edge} {g1 g2 : Option (Nat × Bool)}
    (hi1 : ops[m]? = some ⟨some d1, .fieldAddr s' x f, ty1, pos1, af1, g1⟩) (hj1 : ops[m']? = some ⟨some d2, .load t' x2, ty2, pos2, af2, g2⟩)
    (hb : ∀ w', S w' → Blk w' b cs tt) (hS : S w) (k : ∀ p, WT P N ops Q S s ((d2, v) :: (d1, p) :: l) w) (hv : cs[off]? = some v := by rfl) (hx : ev l x = some (.pointer (some ⟨b, 0, none⟩)) := by rfl) (h2 : x2 = .tmp d1 := by rfl)
    (hg1 : wantedL ops l g1 = some true := by rfl) (hg2 : ∀ p, wantedL ops ((d1, .pointer (some p)) :: l) g2 = some true := by intro _; rfl) (hd1 : Nat.blt d1 N = true := by rfl) (hd2 : Nat.blt d2 N = true := by rfl) :
    WT P N ops Q S (.q m (.q m' s)) l w := by
  subst h2
  refine WT.q hi1 (q_field hx hg1 hd1) hS ?_
  have ha : (⟨b, 0, none⟩ : Addr).add off = ⟨b, off, none⟩ := by unfold Addr.add; split <;> simp_all
  rw [ha]
  exact WT.q hj1 (q_load (look_cons_self _ _ _) (fun w' hw' => (hb w' hw').cell hv) (hg2 _) hd2) hS (k _)

/-- A middle: what holds behind the first part is enough for the rest. -/
theorem WP.mid {c : Code} {K : Fr → World → Prop} (M : Fr → World → Prop) (hx : WP P N c (thenE M Q) l w) (hk : ∀ l w, M l w → K l w) : WP P N c (thenE K Q) l w := fun a ha =>
  wp_mono (hx a ha) fun e a' w' he => by
    cases e with
    | normal => obtain ⟨l', hr, hm⟩ := he; exact ⟨l', hr, hk _ _ hm⟩
    | ret => exact he
    | exit id => exact he
    | goto n => exact he
    | panic c => exact he
    | outgrown => exact he
end
end Go.Fw
