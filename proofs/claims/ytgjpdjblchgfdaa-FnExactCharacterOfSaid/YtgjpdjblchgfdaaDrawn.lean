/- Regions whose order Go leaves open: one walk, in a schedule that a check finds good for every order. -/
import Derived.Test.YtgjpdjblchgfdaaApp
namespace Go.Fw
open Go Go.RowKit

/-- The operation behind which S need not hold any more: the schedule's last one, if its number is written as 1000 + number. -/
def schedLast (ops : Array Oper) (s : List (Nat × Bool)) : Nat :=
  match s.getLast? with
  | some (i, false) => if 1000 ≤ i then i - 1000 else ops.size
  | _ => ops.size
/-- It waits for every other one, by edges of its own. -/
def lastOk (ops : Array Oper) (k : Nat) : Bool :=
  match ops[k]? with
  | none => true
  | some o => (List.range ops.size).all fun i => i == k || o.after.any fun e => Region.binds .any e && e.on == i

/-- A schedule: each operation's number; 'true': it only looks, and may be taken when it is ready; 'false': it is the only one that is ready. -/
def schedOk (ops : Array Oper) (k : Nat) : List (Nat × Bool) → Array Bool → Bool
  | [], listed => (Region.ready .any ops listed).isEmpty
  | (i, true) :: s, listed => (Region.ready .any ops listed).contains i && Region.free .any ops listed i && decide (i < ops.size ∧ i ≠ k) && schedOk ops k s (listed.setIfInBounds i true)
  | (i, false) :: s, listed =>
    if 1000 ≤ i then decide (Region.ready .any ops listed = [i - 1000]) && decide (i - 1000 = k) && schedOk ops k s (listed.setIfInBounds (i - 1000) true)
    else decide (Region.ready .any ops listed = [i]) && schedOk ops k s (listed.setIfInBounds i true)

def schedGood (ops : Array Oper) (s : List (Nat × Bool)) : Bool := Region.noSelect ops && decide (s.length = ops.size) && lastOk ops (schedLast ops s) && schedOk ops (schedLast ops s) s (Array.replicate ops.size false)

/-- Whatever order is picked from here on; S holds behind every operation but k. -/
def wpAnyK (P : Program) (ops : Array Oper) (Q : Exit → Act → World → Prop) (S : World → Prop) (k : Nat) : Nat → Array Bool → Act → World → Prop
  | 0, listed, a, w => Region.ready .any ops listed = [] ∧ Q .normal a w
  | fuel + 1, listed, a, w => (Region.ready .any ops listed = [] → Q .normal a w) ∧ ∀ i ∈ Region.ready .any ops listed, wpOp P ops Q i (fun a' w' => (i ≠ k → S w') ∧ wpAnyK P ops Q S k fuel (listed.setIfInBounds i true) a' w') a w

section
variable {P : Program} {ops : Array Oper} {Q : Exit → Act → World → Prop} {S : World → Prop} {k : Nat}
theorem wpAny_of_K : ∀ (fuel : Nat) (listed : Array Bool) (a : Act) (w : World), wpAnyK P ops Q S k fuel listed a w → wpAny P .any ops Q fuel listed a w
  | 0, _, _, _, h => h
  | fuel + 1, _, _, _, h => ⟨h.1, fun i hi => wpOp_mono (fun a' w' h' => wpAny_of_K fuel _ a' w' h'.2) (h.2 i hi)⟩

theorem listed_of_ready {i : Nat} {listed : Array Bool} (h : i ∈ Region.ready .any ops listed) : listed[i]?.getD false ≠ true := fun h' => by
  have h0 := (mem_ready.1 h).1
  rw [Array.getD_eq_getD_getElem?] at h0
  cases hq : listed[i]? with
  | none => rw [hq] at h'; cases h'
  | some b => rw [hq] at h0 h'; simp at h0 h'; rw [h0] at h'; cases h'

theorem wpAnyK_first {i : Nat} {oi : Oper} {v : Value} (hi : ops[i]? = some oi) (hik : i ≠ k) (hk : ∀ ok, ops[k]? = some ok → ∃ e ∈ ok.after, Region.binds .any e = true ∧ e.on = i)
    (hsel : ∀ (j : Nat) (o : Oper) cs b, ops[j]? = some o → o.op ≠ .select cs b) (hQ : ∀ c a w, Q (.panic c) (a.put oi.dst v) w → Q (.panic c) a w) :
    ∀ (fuel : Nat) (listed : Array Bool) (a : Act) (w : World),
      (∀ j oj, ops[j]? = some oj → j ≠ i → listed.getD j true = false → (∀ e ∈ oj.after, Region.binds .any e = true → e.on ≠ i) → oi.apart ops oj = true) →
      i ∈ Region.ready .any ops listed → YieldsIf P ops S oi v a → S w →
      wpAnyK P ops Q S k fuel (listed.setIfInBounds i true) (a.put oi.dst v) w → wpAnyK P ops Q S k (fuel + 1) listed a w
  | 0, listed, a, w, _, hr, hy, hS, H => by
    refine ⟨fun h => (by rw [h] at hr; cases hr), fun j hj => ?_⟩
    by_cases e : j = i
    · subst e; exact hy.wpOp hi hS ⟨fun _ => hS, H⟩
    · have := ready_mono hj e
      rw [H.1] at this
      cases this
  | fuel + 1, listed, a, w, hf, hr, hy, hS, H => by
    refine ⟨fun h => (by rw [h] at hr; cases hr), fun j hj => ?_⟩
    by_cases e : j = i
    · subst e; exact hy.wpOp hi hS ⟨fun _ => hS, H⟩
    obtain ⟨hju, oj, hoj, hall⟩ := mem_ready.1 hj
    have hno : ∀ e ∈ oj.after, Region.binds .any e = true → e.on ≠ i := fun ed he hb heq => listed_of_ready hr (by have := hall ed he hb; rw [heq] at this; simpa using this)
    have hjk : j ≠ k := fun e2 => by
      subst e2
      obtain ⟨ed, he, hb, hon⟩ := hk oj hoj
      exact hno ed he hb hon
    have h2 := wpOp_putIf hoj (hf j oj hoj e hju hno) (fun cs b => hsel i oi cs b hi) (fun cs b => hsel j oj cs b hoj) hQ hy (H.2 j (ready_mono hj e))
    refine wpOp_mono (fun a' w' h3 => ⟨h3.2.1, wpAnyK_first hi hik hk hsel hQ fuel (listed.setIfInBounds j true) a' w' (fun m om hm hmi hun hn => hf m om hm hmi ?_ hn) (ready_mono hr (Ne.symm e)) h3.1 (h3.2.1 hjk) ?_⟩) h2
    · by_cases ejm : j = m
      · subst ejm; exact hju
      · rw [getD_set_ne true ejm] at hun; exact hun
    · rw [Array.setIfInBounds_comm _ _ e]
      exact h3.2.2
end

def wpSched (P : Program) (ops : Array Oper) (Q : Exit → Act → World → Prop) (S : World → Prop) : List (Nat × Bool) → Act → World → Prop
  | [], a, w => Q .normal a w
  | (i, true) :: s, a, w => ∃ o v, ops[i]? = some o ∧ YieldsIf P ops S o v a ∧ S w ∧ wpSched P ops Q S s (a.put o.dst v) w
  | (i, false) :: s, a, w => if 1000 ≤ i then wpOp P ops Q (i - 1000) (fun a' w' => wpSched P ops Q S s a' w') a w else wpOp P ops Q i (fun a' w' => S w' ∧ wpSched P ops Q S s a' w') a w

theorem wpAnyK_of_sched {P : Program} {ops : Array Oper} {Q : Exit → Act → World → Prop} {S : World → Prop} {k : Nat} (hQ : ∀ c a w, ¬ Q (.panic c) a w) (hs : Region.noSelect ops = true) (hl : lastOk ops k = true) :
    ∀ (s : List (Nat × Bool)) (listed : Array Bool) (a : Act) (w : World), schedOk ops k s listed = true → wpSched P ops Q S s a w → wpAnyK P ops Q S k s.length listed a w
  | [], listed, a, w, h, hw => ⟨by simpa [schedOk] using h, hw⟩
  | (i, true) :: s, listed, a, w, h, hw => by
    simp only [schedOk, Bool.and_eq_true, decide_eq_true_eq] at h
    obtain ⟨o, v, hi, hy, hS, hk⟩ := hw
    refine wpAnyK_first hi h.1.2.2 (fun ok hok => ?_) (Region.noSelect_spec hs) (fun c a w hq => absurd hq (hQ c _ w)) s.length listed a w (Region.free_spec hi h.1.1.2) (by simpa using h.1.1.1) hy hS (wpAnyK_of_sched hQ hs hl s _ _ _ h.2 hk)
    unfold lastOk at hl
    rw [hok] at hl
    have := List.all_eq_true.1 hl i (List.mem_range.2 h.1.2.1)
    simp only [Bool.or_eq_true, beq_iff_eq] at this
    rcases this with h' | h'
    · exact absurd h' h.1.2.2
    · simp only [Array.any_eq_true', Bool.and_eq_true, beq_iff_eq] at h'
      obtain ⟨e, he, hb, hon⟩ := h'
      exact ⟨e, he, hb, hon⟩
  | (i, false) :: s, listed, a, w, h, hw => by
    unfold schedOk at h
    unfold wpSched at hw
    by_cases hi : 1000 ≤ i
    · rw [if_pos hi] at h hw
      simp only [Bool.and_eq_true, decide_eq_true_eq] at h
      generalize i - 1000 = m at h hw
      refine ⟨fun h0 => (by rw [h.1.1] at h0; cases h0), fun j hj => ?_⟩
      rw [h.1.1] at hj
      simp only [List.mem_singleton] at hj
      subst hj
      exact wpOp_mono (fun a' w' hk => ⟨fun hne => absurd h.1.2 hne, wpAnyK_of_sched hQ hs hl s _ _ _ h.2 hk⟩) hw
    · rw [if_neg hi] at h hw
      simp only [Bool.and_eq_true, decide_eq_true_eq] at h
      refine ⟨fun h0 => (by rw [h.1] at h0; cases h0), fun j hj => ?_⟩
      rw [h.1] at hj
      simp only [List.mem_singleton] at hj
      subst hj
      exact wpOp_mono (fun a' w' hk => ⟨fun _ => hk.1, wpAnyK_of_sched hQ hs hl s _ _ _ h.2 hk.2⟩) hw

def WS (P : Program) (N : Nat) (ops : Array Oper) (Q : Exit → Fr → World → Prop) (S : World → Prop) (s : List (Nat × Bool)) (l : Fr) (w : World) : Prop :=
  ∀ a, Rep N a l → wpSched P ops (lft N Q) S s a w

section
variable {P : Program} {N : Nat} {Q : Exit → Fr → World → Prop} {S : World → Prop} {l : Fr} {w : World} {ops : Array Oper} {s : List (Nat × Bool)}

/-- The region, by a schedule. S is what every operation keeps, and what those that only look lean on. -/
theorem WP.drawn {id : Nat} {ops : List Oper} (S : World → Prop) (s : List (Nat × Bool)) (hg : schedGood ops.toArray s = true) (hm : P.follows .mixedOrders = true)
    (h : ∀ w1, Still w w1 → WS P N ops.toArray Q S s l w1) : WP P N (.region id ops.toArray true) Q l w := fun a ha => by
  simp only [schedGood, Bool.and_eq_true, decide_eq_true_eq] at hg
  refine wp_region_any hm (wpAny_of_K (S := S) (k := schedLast ops.toArray s) _ _ _ _ ?_)
  have := wpAnyK_of_sched (P := P) (Q := lft N Q) (S := S) (fun c a w h => h) hg.1.1.1 hg.1.2 s _ a _ hg.2 (h w.drew (Still.drew w) a ha)
  rw [hg.1.1.2] at this
  exact this

theorem WS.nil (h : Q .normal l w) : WS P N ops Q S [] l w := fun _ ha => ⟨l, ha, h⟩

/-- An operation that only looks: its value, in every world that S lets. -/
def QW (P : Program) (N : Nat) (ops : Array Oper) (S : World → Prop) (o : Oper) (l : Fr) (d : Nat) (v : Value) : Prop :=
  o.dst = some d ∧ d < N ∧ ∀ a, Rep N a l → YieldsIf P ops S o v a

theorem WS.q {i d : Nat} {o : Oper} {v : Value} (hi : ops[i]? = some o) (hq : QW P N ops S o l d v) (hS : S w) (k : WS P N ops Q S s ((d, v) :: l) w) : WS P N ops Q S ((i, true) :: s) l w := fun a ha => by
  refine ⟨o, v, hi, hq.2.2 a ha, hS, ?_⟩
  rw [hq.1]
  exact k _ (ha.put hq.2.1 v)

theorem WS.op {i : Nat} {o : Oper} (hi : ops[i]? = some o) (h : OpW P N ops Q o l w (fun l' w' => S w' ∧ WS P N ops Q S s l' w')) (hlt : Nat.blt i 1000 = true := by rfl) : WS P N ops Q S ((i, false) :: s) l w := fun a ha => by
  show (if 1000 ≤ i then _ else wpOp P ops (lft N Q) i (fun a' w' => S w' ∧ wpSched P ops (lft N Q) S s a' w') a w)
  have hlt' : i < 1000 := by simpa using hlt
  rw [if_neg (by omega)]
  unfold wpOp
  rw [hi]
  exact h a ha _ (fun a' l' w' ha' hk => ⟨hk.1, hk.2 a' ha'⟩)

/-- The last operation: behind it S is not asked for. -/
theorem WS.last {i : Nat} {o : Oper} (hi : ops[i - 1000]? = some o) (h : OpW P N ops Q o l w (fun l' w' => WS P N ops Q S s l' w')) (hge : Nat.ble 1000 i = true := by rfl) : WS P N ops Q S ((i, false) :: s) l w := fun a ha => by
  show (if 1000 ≤ i then wpOp P ops (lft N Q) (i - 1000) (fun a' w' => wpSched P ops (lft N Q) S s a' w') a w else _)
  rw [if_pos (by simpa using hge)]
  unfold wpOp
  rw [hi]
  exact h a ha _ (fun a' l' w' ha' hk => hk a' ha')

/-- A slot that holds a truth value: both cases. -/
theorem WS.split {t : Nat} {b : Bool} (hb : look l t = some (.bool b)) (ht : b = true → WS P N ops Q S s ((t, .bool true) :: l) w) (hf : b = false → WS P N ops Q S s ((t, .bool false) :: l) w) : WS P N ops Q S s l w := fun a ha => by
  cases b
  · exact hf rfl a (ha.lit hb)
  · exact ht rfl a (ha.lit hb)
theorem WS.splitD {t : Nat} {p : Prop} [Decidable p] (hb : look l t = some (.bool (decide p))) (ht : p → WS P N ops Q S s ((t, .bool true) :: l) w) (hf : ¬ p → WS P N ops Q S s ((t, .bool false) :: l) w) : WS P N ops Q S s l w :=
  WS.split hb (fun h => ht (of_decide_eq_true h)) (fun h => hf (of_decide_eq_false h))
theorem WS.splitN {t : Nat} {b : Bool} (hb : look l t = some (.bool (!b))) (ht : b = false → WS P N ops Q S s ((t, .bool true) :: l) w) (hf : b = true → WS P N ops Q S s ((t, .bool false) :: l) w) : WS P N ops Q S s l w :=
  WS.split hb (fun h => ht (by simpa using h)) (fun h => hf (by simpa using h))

section
variable {d : Nat} {op : Op} {ty : TypeId} {pos : String} {af : Array Edge} {g : Option (Nat × Bool)}

theorem QW.mk {v : Value} (hr : ∀ a, Rep N a l → ∀ w, S w → (execOp a.eval ⟨some d, op, ty, pos, af, g⟩).run P w = .ok (.value v) w)
    (hg : wantedL ops l g = some true) (hd : Nat.blt d N = true) : QW P N ops S ⟨some d, op, ty, pos, af, g⟩ l d v :=
  ⟨rfl, Nat.blt_eq.mp hd, fun a ha => .inl ⟨wantedL_sound (o := ⟨some d, op, ty, pos, af, g⟩) ha hg, fun w hS => hr a ha w hS⟩⟩

theorem q_pass (hg : wantedL ops l g = some false) (hd : Nat.blt d N = true := by rfl) : QW P N ops S ⟨some d, op, ty, pos, af, g⟩ l d undef :=
  ⟨rfl, Nat.blt_eq.mp hd, fun _ ha => .inr ⟨wantedL_sound (o := ⟨some d, op, ty, pos, af, g⟩) ha hg, rfl⟩⟩

theorem q_s {v : Value} (h : simple l op = some v) (hg : wantedL ops l g = some true := by rfl) (hd : Nat.blt d N = true := by rfl) : QW P N ops S ⟨some d, op, ty, pos, af, g⟩ l d v :=
  QW.mk (fun a ha _ _ => run_simple h a ha) hg hd
theorem q_len {t e : TypeId} {z : Value} {bytes : Nat} [h : SliceTy P t e z bytes] {x : Operand} {a : Option Addr} {n c : Nat}
    (hx : ev l x = some (.slice a n c)) (hg : wantedL ops l g = some true := by rfl) (hd : Nat.blt d N = true := by rfl) :
    QW P N ops S ⟨some d, .call { callee := .builtin .len, args := #[x], argTypes := #[t] }, ty, pos, af, g⟩ l d (.int .i64 n) :=
  QW.mk (fun fr ha _ _ => by simp [execOp, resolve, invoke, builtin, Builtin.len_, ha.ev hx, run_underlying h.und, goInt]) hg hd
theorem q_add {x y : Operand} {t t' : TypeId} {a b : Int} (hx : ev l x = some (.int .i64 a)) (hy : ev l y = some (.int .i64 b)) (hb : InI (a + b))
    (hg : wantedL ops l g = some true := by rfl) (hd : Nat.blt d N = true := by rfl) : QW P N ops S ⟨some d, .binOp .add t x y t', ty, pos, af, g⟩ l d (.int .i64 (a + b)) :=
  QW.mk (fun fr ha _ _ => by simp [execOp, ha.ev hx, ha.ev hy, eqGuard, binOp, Op.intArith, wrap_in hb]) hg hd
theorem q_sub {x y : Operand} {t t' : TypeId} {a b : Int} (hx : ev l x = some (.int .i64 a)) (hy : ev l y = some (.int .i64 b)) (hb : InI (a - b))
    (hg : wantedL ops l g = some true := by rfl) (hd : Nat.blt d N = true := by rfl) : QW P N ops S ⟨some d, .binOp .sub t x y t', ty, pos, af, g⟩ l d (.int .i64 (a - b)) :=
  QW.mk (fun fr ha _ _ => by simp [execOp, ha.ev hx, ha.ev hy, eqGuard, binOp, Op.intArith, wrap_in hb]) hg hd
theorem q_mul {x y : Operand} {t t' : TypeId} {a b : Int} (hx : ev l x = some (.int .i64 a)) (hy : ev l y = some (.int .i64 b)) (hb : InI (a * b))
    (hg : wantedL ops l g = some true := by rfl) (hd : Nat.blt d N = true := by rfl) : QW P N ops S ⟨some d, .binOp .mul t x y t', ty, pos, af, g⟩ l d (.int .i64 (a * b)) :=
  QW.mk (fun fr ha _ _ => by simp [execOp, ha.ev hx, ha.ev hy, eqGuard, binOp, Op.intArith, wrap_in hb]) hg hd
theorem q_neg {x : Operand} {t : TypeId} {a : Int} (hx : ev l x = some (.int .i64 a)) (hb : InI (-a))
    (hg : wantedL ops l g = some true := by rfl) (hd : Nat.blt d N = true := by rfl) : QW P N ops S ⟨some d, .unOp .neg t x, ty, pos, af, g⟩ l d (.int .i64 (-a)) :=
  QW.mk (fun fr ha _ _ => by simp [execOp, ha.ev hx, Op.unary, Op.intArith, wrap_in hb]) hg hd
theorem q_conv {t u : TypeId} [h1 : IntTy P t .i64] [h2 : IntTy P u .i64] {x : Operand} {a : Int} (hx : ev l x = some (.int .i64 a)) (hb : InI a)
    (hg : wantedL ops l g = some true := by rfl) (hd : Nat.blt d N = true := by rfl) : QW P N ops S ⟨some d, .convert t u x, ty, pos, af, g⟩ l d (.int .i64 a) :=
  QW.mk (fun fr ha _ _ => by simp [execOp, ha.ev hx, convert, run_underlying h1.und, run_underlying h2.und, Conv.intToInt, wrap_in hb]) hg hd
theorem q_load {t : TypeId} [CellTy P t] {x : Operand} {a : Addr} {v : Value} (hx : ev l x = some (.pointer (some a))) (hc : ∀ w, S w → w.cell? a = some v)
    (hg : wantedL ops l g = some true := by rfl) (hd : Nat.blt d N = true := by rfl) : QW P N ops S ⟨some d, .load t x, ty, pos, af, g⟩ l d v :=
  QW.mk (fun fr ha w hS => by simp [execOp, ha.ev hx, run_loadAt_cell (hc w hS)]) hg hd
theorem q_field {st : TypeId} {f off : Nat} [h : FieldTy P st f off] {x : Operand} {a : Addr} (hx : ev l x = some (.pointer (some a)))
    (hg : wantedL ops l g = some true := by rfl) (hd : Nat.blt d N = true := by rfl) : QW P N ops S ⟨some d, .fieldAddr st x f, ty, pos, af, g⟩ l d (.pointer (some (a.add off))) :=
  QW.mk (fun fr ha _ _ => by simp [execOp, ha.ev hx, h.at_]) hg hd
theorem q_sliceH {t e : TypeId} {z : Value} {bytes : Nat} [SliceTy P t e z bytes] {x y : Operand} {a : Option Addr} {n c i : Nat} {kk : IntKind} (hx : ev l x = some (.slice a n c)) (hy : ev l y = some (.int kk (i : Nat))) (hi : i ≤ c)
    (hg : wantedL ops l g = some true := by rfl) (hd : Nat.blt d N = true := by rfl) : QW P N ops S ⟨some d, .slice t x none (some y) none, ty, pos, af, g⟩ l d (.slice a i c) :=
  QW.mk (fun fr ha _ _ => by simp [execOp, ha.ev hx, ha.ev hy, run_sliceH (P := P) (t := t) hi]) hg hd
theorem q_ix {t e : TypeId} {z : Value} {bytes : Nat} [SliceTy P t e z bytes] {x y : Operand} {b o n c : Nat} {kk : IntKind} {i : Int} (hx : ev l x = some (.slice (some ⟨b, o, none⟩) n c)) (hi : ev l y = some (.int kk i))
    (h0 : 0 ≤ i) (h1 : i < n) (hg : wantedL ops l g = some true := by rfl) (hd : Nat.blt d N = true := by rfl) : QW P N ops S ⟨some d, .indexAddr t x y, ty, pos, af, g⟩ l d (.pointer (some ⟨b, o + i.toNat, none⟩)) :=
  QW.mk (fun fr ha _ _ => by simp [execOp, ha.ev hx, ha.ev hi, run_indexAt_of h0 h1]) hg hd
end
end

section
variable {P : Program} {N : Nat} {Q : Exit → Fr → World → Prop} {S : World → Prop} {l : Fr} {w : World} {ops : Array Oper} {s : List (Nat × Bool)}
variable {d : Nat} {ty : TypeId} {pos : String} {af : Array Edge} {g : Option (Nat × Bool)}
theorem WS.call {i : Nat} {f : FuncId} [FuncTy P f] {xs : List Operand} {tys : Array TypeId} {vs : List Value} {Phi : Value → World → Prop}
    (hi : ops[i]? = some ⟨some d, .call { callee := .value (.func f), args := xs.toArray, argTypes := tys }, ty, pos, af, g⟩)
    (hc : Does P f vs w Phi) (k : ∀ v w', Phi v w' → S w' ∧ WS P N ops Q S s ((d, v) :: l) w') (hx : evs l xs = some vs := by rfl)
    (hg : wantedL ops l g = some true := by rfl) (hd : Nat.blt d N = true := by rfl) (hlt : Nat.blt i 1000 = true := by rfl) : WS P N ops Q S ((i, false) :: s) l w :=
  WS.op hi (o_call hc k hx hg hd) hlt
end

/-! ### Elements of slices that are read -/
section
variable {P : Program} {N : Nat} {Q : Exit → Fr → World → Prop} {l : Fr} {w : World} {ops : Array Oper}
variable {α : Type} {R : Nat → Nat → World → Value → α → Prop} {lo hi : Nat} {v : Value} {xs : List α}

/-- x[i]: the place and the load. -/
theorem WL.ixload {t t2 e : TypeId} {z : Value} {bytes : Nat} [SliceTy P t e z bytes] [CellTy P t2] {x y : Operand} {kk : IntKind} {i : Int} {j : Nat} {d1 d2 : Nat} {ty1 ty2 : TypeId} {pos1 pos2 : String} {af1 af2 : Array Edge} {g1 g2 : Option (Nat × Bool)} {x2 : Operand} {rest : List Oper} {a : α}
    (hs : SL R lo hi w v xs) (ha : xs[j]? = some a)
    (k : ∀ p u, R lo hi w u a → WL P N ops Q rest ((d2, u) :: (d1, p) :: l) w) (hx : ev l x = some v := by rfl) (hy : ev l y = some (.int kk i) := by rfl) (hij : i = (j : Int) := by first | rfl | omega) (h2 : x2 = .tmp d1 := by rfl)
    (hg1 : wantedL ops l g1 = some true := by rfl) (hg2 : ∀ p, wantedL ops ((d1, .pointer (some p)) :: l) g2 = some true := by intro _; rfl) (hd1 : Nat.blt d1 N = true := by rfl) (hd2 : Nat.blt d2 N = true := by rfl) :
    WL P N ops Q (⟨some d1, .indexAddr t x y, ty1, pos1, af1, g1⟩ :: ⟨some d2, .load t2 x2, ty2, pos2, af2, g2⟩ :: rest) l w := by
  subst h2
  obtain ⟨_, ad, c, rfl, hl, hn, h⟩ := hs
  obtain ⟨b, o, u, rfl, _, _, hc, hr⟩ := h _ a ha
  have hlt := (List.getElem?_eq_some_iff.1 ha).1
  subst hij
  refine WL.step (o_ix hx hy (by omega) (by omega) ?_ hg1 hd1)
  refine WL.step (o_load (look_cons_self _ _ _) (by simpa using hc) ?_ (hg2 _) hd2)
  exact k _ u hr

theorem same_heap {lo hi : Nat} {w w' : World} (h : w'.heap = w.heap) : Same lo hi w w' := fun _ _ _ => by rw [h]
theorem same_below {B lo hi : Nat} {w0 w w' : World} (h : Below B w0 w) (h' : Below B w0 w') (hB : hi ≤ B) : Same lo hi w w' := fun k _ h2 => (h'.block k (by omega)).trans (h.block k (by omega)).symm

/-- x[i] in a drawn region. -/
theorem WS.ixload {S : World → Prop} {s : List (Nat × Bool)} {m m' : Nat} {t t2 e : TypeId} {z : Value} {bytes : Nat} [SliceTy P t e z bytes] [CellTy P t2] {x y : Operand} {kk : IntKind} {i : Int} {j : Nat} {d1 d2 : Nat} {ty1 ty2 : TypeId} {pos1 pos2 : String} {af1 af2 : Array Edge} {g1 g2 : Option (Nat × Bool)} {x2 : Operand} {a : α}
    (hi1 : ops[m]? = some ⟨some d1, .indexAddr t x y, ty1, pos1, af1, g1⟩) (hj1 : ops[m']? = some ⟨some d2, .load t2 x2, ty2, pos2, af2, g2⟩)
    (hs : SL R lo hi w v xs) (ha : xs[j]? = some a) (hS : ∀ w', S w' → Same lo hi w w') (hSw : S w)
    (k : ∀ p u, R lo hi w u a → WS P N ops Q S s ((d2, u) :: (d1, p) :: l) w) (hx : ev l x = some v := by rfl) (hy : ev l y = some (.int kk i) := by rfl) (hij : i = (j : Int) := by first | rfl | omega) (h2 : x2 = .tmp d1 := by rfl)
    (hg1 : wantedL ops l g1 = some true := by rfl) (hg2 : ∀ p, wantedL ops ((d1, .pointer (some p)) :: l) g2 = some true := by intro _; rfl) (hd1 : Nat.blt d1 N = true := by rfl) (hd2 : Nat.blt d2 N = true := by rfl) :
    WS P N ops Q S ((m, true) :: (m', true) :: s) l w := by
  subst h2
  obtain ⟨_, ad, c, rfl, hl, hn, h⟩ := hs
  obtain ⟨b, o, u, rfl, hb1, hb2, hc, hr⟩ := h _ a ha
  have hlt := (List.getElem?_eq_some_iff.1 ha).1
  subst hij
  refine WS.q hi1 (q_ix hx hy (by omega) (by omega) hg1 hd1) hSw ?_
  refine WS.q hj1 (q_load (look_cons_self _ _ _) (fun w' hw' => by rw [World.cell?_of_block (hS w' hw' b hb1 hb2)]; simpa using hc) (hg2 _) hd2) hSw ?_
  exact k _ u hr

theorem Own.setCell {lo : Nat} {e : TypeId} {w : World} {g n c : Nat} {us : List Value} (h : Own lo e w (.slice (some ⟨g, 0, none⟩) n c) us) (i : Nat) (u : Value) :
    Own lo e (w.setCell ⟨g, i, none⟩ u) (.slice (some ⟨g, 0, none⟩) n c) (us.set i u) := by
  obtain ⟨a, c', hv, _⟩ := h.shape
  simp only [Value.slice.injEq] at hv
  obtain ⟨_, rfl, rfl⟩ := hv
  have := (World.ownsRow.stored h i u).1
  unfold Own
  rw [List.length_set]
  exact this

/-- x[i] = u, x a slice that the call owns: the place and the store. -/
theorem WL.ixstore {t t2 e e' : TypeId} {z : Value} {bytes : Nat} [SliceTy P t e z bytes] [CellTy P t2] {x y x2 y2 : Operand} {kk : IntKind} {i : Int} {j : Nat} {d1 lo : Nat} {v u : Value} {us : List Value} {ty1 ty2 : TypeId} {pos1 pos2 : String} {af1 af2 : Array Edge} {rest : List Oper}
    (hown : Own lo e' w v us) (h1 : j < us.length)
    (k : ∀ p w1, Own lo e' w1 v (us.set j u) → Below lo w w1 → w1.heap.size = w.heap.size → (∀ k, v.ownBlock ≠ some k → w1.heap[k]? = w.heap[k]?) → WL P N ops Q rest ((d1, p) :: l) w1)
    (hx : ev l x = some v := by rfl) (hy : ev l y = some (.int kk i) := by rfl) (hij : i = (j : Int) := by first | rfl | omega) (hy2 : ∀ p, ev ((d1, p) :: l) y2 = some u := by intro _; rfl) (hu : u.oneCell' = true := by rfl) (h2 : x2 = .tmp d1 := by rfl)
    (hd1 : Nat.blt d1 N = true := by rfl) :
    WL P N ops Q (⟨some d1, .indexAddr t x y, ty1, pos1, af1, none⟩ :: ⟨none, .store t2 x2 y2, ty2, pos2, af2, none⟩ :: rest) l w := by
  subst h2
  obtain ⟨g, c, rfl, hg1, hg2, hcell, hfz, hob⟩ := hown.cell (i := j) (List.getElem?_eq_getElem h1)
  subst hij
  refine WL.step (o_ix hx hy (by omega) (by omega) ?_ rfl hd1)
  rw [Nat.zero_add, Int.toNat_natCast]
  refine WL.step (o_store (look_cons_self _ _ _) (hy2 _) hcell hfz ?_ hu rfl)
  exact k _ _ (Own.setCell hown j u) ((But.setCell w g j u).below hg1) (by simp) (fun k hk => (But.setCell w g j u).block k (fun e => hk (by rw [hob, e])))
end

end Go.Fw
