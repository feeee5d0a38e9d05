/- A frame logic for walks, its operations, data in memory, append, calls, and regions whose order is open. -/
import Derived.WalkKit
import Derived.OrdersHeld
/- A frame logic for walks: what a call does, slot by slot, with the slots kept as a list of known values. It is the base of the walks of this claim. -/
namespace Go.Fw
open Go

abbrev Fr := List (Nat × Value)

/-- The value that is known of a slot. -/
def look : Fr → Nat → Option Value
  | [], _ => none
  | (d, v) :: l, t => bif Nat.beq t d then some v else look l t

def ev (l : Fr) : Operand → Option Value
  | .tmp t => look l t
  | .const v => some v
  | .global g => some (.pointer (some ⟨g, 0, none⟩))
  | .func f => some (.func (.func f) #[] #[])

/-- The frame a has all that is known of it. -/
structure Rep (N : Nat) (a : Act) (l : Fr) : Prop where
  defers : a.defers = []
  size : a.tmps.size = N
  vals : ∀ t v, look l t = some v → a.tmps.getD t undef = v

theorem look_cons_self (d : Nat) (v : Value) (l : Fr) : look ((d, v) :: l) d = some v := by simp [look]
theorem look_cons_ne {d t : Nat} (v : Value) (l : Fr) (h : t ≠ d) : look ((d, v) :: l) t = look l t := by
  have : Nat.beq t d = false := by cases hb : Nat.beq t d <;> simp_all
  simp [look, this]

theorem Rep.ev {N : Nat} {a : Act} {l : Fr} (h : Rep N a l) {x : Operand} {v : Value} (hx : ev l x = some v) : a.eval x = v := by
  cases x with
  | tmp t => exact h.vals t v hx
  | const u => simp only [Fw.ev, Option.some.injEq] at hx; exact hx
  | global g => simpa [Fw.ev, Act.eval] using hx
  | func f => simpa [Fw.ev, Act.eval] using hx

theorem Rep.put {N : Nat} {a : Act} {l : Fr} (h : Rep N a l) {d : Nat} (hd : d < N) (v : Value) : Rep N (a.put (some d) v) ((d, v) :: l) := by
  refine ⟨h.defers, by simp [Act.put, h.size], fun t u hu => ?_⟩
  by_cases e : t = d
  · subst e
    rw [look_cons_self] at hu
    simp only [Option.some.injEq] at hu
    subst hu
    have : t < a.tmps.size := by rw [h.size]; exact hd
    simp [Act.put, this]
  · rw [look_cons_ne v l e] at hu
    have h1 := h.vals t u hu
    have h2 : d ≠ t := fun e' => e e'.symm
    simpa [Act.put, Array.getElem?_setIfInBounds_ne h2] using h1

theorem Rep.put_none {N : Nat} {a : Act} {l : Fr} (h : Rep N a l) (v : Value) : Rep N (a.put none v) l := h

/-- Everything that l' knows, l knows. -/
def Agree (l : Fr) : Fr → Prop
  | [] => True
  | (d, v) :: r => look l d = some v ∧ Agree l r

theorem agree_nil (l : Fr) : Agree l [] := trivial
theorem agree_cons {l r : Fr} {d : Nat} {v : Value} (h : look l d = some v) (h' : Agree l r) : Agree l ((d, v) :: r) := ⟨h, h'⟩

theorem Agree.look {l : Fr} : ∀ {r : Fr}, Agree l r → ∀ t v, look r t = some v → Fw.look l t = some v
  | [], _, t, v, hv => by cases hv
  | (d, u) :: r, h, t, v, hv => by
    by_cases e : t = d
    · subst e
      rw [look_cons_self] at hv
      simp only [Option.some.injEq] at hv
      subst hv
      exact h.1
    · rw [look_cons_ne u r e] at hv
      exact h.2.look t v hv

theorem Rep.weaken {N : Nat} {a : Act} {l r : Fr} (h : Rep N a l) (hr : Agree l r) : Rep N a r :=
  ⟨h.defers, h.size, fun t v hv => h.vals t v (hr.look t v hv)⟩

/-- A post on slots as a post on frames: it speaks of no panic. -/
def lft (N : Nat) (Q : Exit → Fr → World → Prop) : Exit → Act → World → Prop
  | .panic _, _, _ => False
  | .goto _, _, _ => False
  | .outgrown, _, _ => False
  | e, a, w => ∃ l, Rep N a l ∧ Q e l w

def WP (P : Program) (N : Nat) (c : Code) (Q : Exit → Fr → World → Prop) (l : Fr) (w : World) : Prop :=
  ∀ a, Rep N a l → c.wp P (lft N Q) a w

def WL (P : Program) (N : Nat) (ops : Array Oper) (Q : Exit → Fr → World → Prop) (rest : List Oper) (l : Fr) (w : World) : Prop :=
  ∀ a, Rep N a l → wpList P ops (lft N Q) rest a w

section
variable {P : Program} {N : Nat} {Q : Exit → Fr → World → Prop} {l : Fr} {w : World}

theorem WP.frame {c : Code} (r : Fr) (hr : Agree l r) (h : WP P N c Q r w) : WP P N c Q l w := fun a ha => h a (ha.weaken hr)

theorem WP.skip (h : Q .normal l w) : WP P N .skip Q l w := fun _ ha => wp_skip ⟨l, ha, h⟩
theorem WP.label {n : Nat} (h : Q .normal l w) : WP P N (.label n) Q l w := fun _ ha => wp_label ⟨l, ha, h⟩
theorem WP.exit {id : Nat} (h : Q (.exit id) l w) : WP P N (.exit id) Q l w := fun _ ha => wp_exit ⟨l, ha, h⟩
theorem WP.ret (h : Q .ret l w) : WP P N .ret Q l w := fun _ ha => wp_ret ⟨l, ha, h⟩

def thenE (K : Fr → World → Prop) (Q : Exit → Fr → World → Prop) : Exit → Fr → World → Prop
  | .normal, l, w => K l w
  | e, l, w => Q e l w

theorem WP.seq {x y : Code} (h : WP P N x (thenE (fun l w => WP P N y Q l w) Q) l w) : WP P N (.seq x y) Q l w := fun a ha => by
  refine wp_seq (wp_mono (h a ha) ?_)
  intro e a' w' he
  cases e with
  | normal => obtain ⟨l', hl, hK⟩ := he; exact hK a' hl
  | exit id => exact he
  | goto n => exact he
  | ret => exact he
  | panic c => exact he
  | outgrown => exact he

theorem thenN {K : Fr → World → Prop} (h : K l w) : thenE K Q .normal l w := h
theorem thenR {K : Fr → World → Prop} (h : Q .ret l w) : thenE K Q .ret l w := h
theorem thenX {K : Fr → World → Prop} {id : Nat} (h : Q (.exit id) l w) : thenE K Q (.exit id) l w := h

/-- As 'seq', with an assertion between the two parts. -/
theorem WP.seqMid {x y : Code} (M : Fr → World → Prop) (hx : WP P N x (thenE M Q) l w) (hy : ∀ l w, M l w → WP P N y Q l w) : WP P N (.seq x y) Q l w := by
  refine fun a ha => wp_seq (wp_mono (hx a ha) ?_)
  intro e a' w' he
  cases e with
  | normal => obtain ⟨l', hl, hK⟩ := he; exact hy _ _ hK a' hl
  | exit id => exact he
  | goto n => exact he
  | ret => exact he
  | panic c => exact he
  | outgrown => exact he

theorem WP.cond {c : Operand} {x y : Code} {b : Bool} (hc : ev l c = some (.bool b)) (ht : b = true → WP P N x Q l w) (hf : b = false → WP P N y Q l w) :
    WP P N (.cond c x y) Q l w := fun a ha => wp_cond_split (ha.ev hc) (fun h => ht h a ha) (fun h => hf h a ha)
theorem WP.condT {c : Operand} {x y : Code} (hc : ev l c = some (.bool true)) (ht : WP P N x Q l w) : WP P N (.cond c x y) Q l w :=
  WP.cond hc (fun _ => ht) (fun h => by cases h)
theorem WP.condF {c : Operand} {x y : Code} (hc : ev l c = some (.bool false)) (hf : WP P N y Q l w) : WP P N (.cond c x y) Q l w :=
  WP.cond hc (fun h => by cases h) (fun _ => hf)
/-- A test that is a proposition's. -/
theorem WP.condD {c : Operand} {x y : Code} {p : Prop} [Decidable p] (hc : ev l c = some (.bool (decide p))) (ht : p → WP P N x Q l w) (hf : ¬ p → WP P N y Q l w) :
    WP P N (.cond c x y) Q l w := WP.cond hc (fun h => ht (of_decide_eq_true h)) (fun h => hf (of_decide_eq_false h))

def inBlockE (id : Nat) (Q : Exit → Fr → World → Prop) : Exit → Fr → World → Prop
  | .exit id', l, w => if id' = id then Q .normal l w else Q (.exit id') l w
  | e, l, w => Q e l w

theorem WP.block {id : Nat} {c : Code} (h : WP P N c (inBlockE id Q) l w) : WP P N (.block id c) Q l w := fun a ha => by
  refine wp_block (wp_mono (h a ha) ?_)
  intro e a' w' he
  cases e with
  | normal => exact he
  | exit id' =>
    obtain ⟨l', hl, hq⟩ := he
    simp only [Exit.inBlock, inBlockE] at hq ⊢
    split
    · rename_i e; rw [if_pos e] at hq; exact ⟨l', hl, hq⟩
    · rename_i e; rw [if_neg e] at hq; exact ⟨l', hl, hq⟩
  | goto n => exact he
  | ret => exact he
  | panic c => exact he
  | outgrown => exact he

theorem blkN {id : Nat} (h : Q .normal l w) : inBlockE id Q .normal l w := h
theorem blkR {id : Nat} (h : Q .ret l w) : inBlockE id Q .ret l w := h
theorem blkHit {id : Nat} (h : Q .normal l w) : inBlockE id Q (.exit id) l w := by simp only [inBlockE, if_true]; exact h
theorem blkMiss {id id' : Nat} (hne : Nat.beq id' id = false) (h : Q (.exit id') l w) : inBlockE id Q (.exit id') l w := by
  have : ¬ id' = id := fun e => by subst e; simp at hne
  simp only [inBlockE, if_neg this]; exact h

theorem WP.condN {c : Operand} {x y : Code} {b : Bool} (hc : ev l c = some (.bool (!b))) (ht : b = false → WP P N x Q l w) (hf : b = true → WP P N y Q l w) :
    WP P N (.cond c x y) Q l w := WP.cond hc (fun h => ht (by simpa using h)) (fun h => hf (by simpa using h))
theorem WP.condND {c : Operand} {x y : Code} {p : Prop} [Decidable p] (hc : ev l c = some (.bool (!decide p))) (ht : ¬ p → WP P N x Q l w) (hf : p → WP P N y Q l w) :
    WP P N (.cond c x y) Q l w := WP.cond hc (fun h => ht (by simpa using h)) (fun h => hf (by simpa using h))

/-- A loop: its state s (of whatever type), what the slots hold in it, and what else holds of it and the world. -/
theorem WP.loop {σ : Type} {c : Code} (live : σ → Fr) (I : σ → World → Prop) (μ : σ → Nat) (s : σ) (hl : Agree l (live s)) (hI : I s w)
    (round : ∀ s w, I s w → WP P N c (thenE (fun l' w' => ∃ s', Agree l' (live s') ∧ I s' w' ∧ μ s' < μ s) Q) (live s) w) : WP P N (.loop c) Q l w := by
  intro a ha b k cs
  have key : ∀ n s a w, μ s = n → Rep N a (live s) → I s w →
      ∃ e a' w', lft N Q e a' w' ∧ Arrives P (lone (b.at a (.code c :: .inLoop c :: k)) cs w) b k cs e a' w' := by
    intro n
    induction n using Nat.strongRecOn with
    | _ n ih =>
      intro s a w hn hr hI
      obtain ⟨e, a₁, w₁, hq, harr⟩ := round s w hI a hr b (.inLoop c :: k) cs
      cases e with
      | normal =>
        obtain ⟨l₁, hl₁, s', hs', hI₁, hlt⟩ := hq
        obtain ⟨e₂, a₂, w₂, hq₂, harr₂⟩ := ih (μ s') (hn ▸ hlt) s' a₁ w₁ rfl (hl₁.weaken hs') hI₁
        exact ⟨e₂, a₂, w₂, hq₂, .of_steps (Steps.trans harr (.one step_inLoop)) harr₂⟩
      | exit id => exact ⟨.exit id, a₁, w₁, hq, .pass (x := .inLoop c) rfl (fun _ _ => .inl (by simp)) harr⟩
      | goto l => exact hq.elim
      | ret => exact ⟨.ret, a₁, w₁, hq, .pass (x := .inLoop c) rfl (fun _ _ => .inl (by simp)) harr⟩
      | panic ch => exact hq.elim
      | outgrown => exact hq.elim
  obtain ⟨e, a', w', hq, harr⟩ := key _ s a w rfl (ha.weaken hl) hI
  exact ⟨e, a', w', hq, .of_steps (.one step_loop) harr⟩

theorem WP.region {id : Nat} {ops : List Oper} (h : WL P N ops.toArray Q ops l w) : WP P N (.region id ops.toArray false) Q l w :=
  fun a ha => wp_region_lit (h a ha)

theorem WL.nil {ops : Array Oper} (h : Q .normal l w) : WL P N ops Q [] l w := fun _ ha => wpList_nil ⟨l, ha, h⟩

theorem WL.frame {ops : Array Oper} {rest : List Oper} (r : Fr) (hr : Agree l r) (h : WL P N ops Q rest r w) : WL P N ops Q rest l w := fun a ha => h a (ha.weaken hr)

/-- Is the operation wanted? -/
def wantedL (ops : Array Oper) (l : Fr) : Option (Nat × Bool) → Option Bool
  | none => some true
  | some (j, want) =>
    match (ops[j]?).bind (·.dst) with
    | some d =>
      match look l d with
      | some (.bool b) => some (b == want)
      | some (.tuple _) => some false
      | _ => none
    | none => none

theorem wantedL_sound {ops : Array Oper} {o : Oper} {a : Act} {b : Bool} (ha : Rep N a l) (h : wantedL ops l o.guard = some b) :
    Region.wanted o (yielded ops a.tmps) = b := by
  unfold wantedL at h
  unfold Region.wanted
  split at h
  · rename_i hg; rw [hg]; simpa using h
  · rename_i j want hg
    rw [hg]
    simp only
    split at h
    · rename_i d hd
      unfold yielded
      rw [hd]
      simp only [Option.bind_some]
      split at h
      · rename_i b' hb
        have hv := ha.vals d _ hb
        by_cases hlt : d < a.tmps.size
        · simp [hlt] at hv ⊢
          rw [hv]
          simpa using h
        · simp [hlt, undef] at hv
      · rename_i vs hb
        have hv := ha.vals d _ hb
        by_cases hlt : d < a.tmps.size
        · simp [hlt] at hv ⊢
          rw [hv]
          simpa using h
        · simp [hlt]
          simpa using h
      · cases h
    · cases h
end

section
variable {P : Program} {N : Nat} {Q : Exit → Fr → World → Prop} {l : Fr} {w : World} {ops : Array Oper} {rest : List Oper}
theorem Rep.lit {a : Act} {t : Nat} {b : Bool} (ha : Rep N a l) (hb : look l t = some (.bool b)) : Rep N a ((t, .bool b) :: l) := by
  refine ⟨ha.defers, ha.size, fun u v hv => ?_⟩
  by_cases e : u = t
  · subst e
    rw [look_cons_self] at hv
    simp only [Option.some.injEq] at hv
    subst hv
    exact ha.vals u _ hb
  · rw [look_cons_ne _ _ e] at hv
    exact ha.vals u v hv
/-- A slot that holds a truth value: both cases. -/
theorem WL.split {t : Nat} {b : Bool} (hb : look l t = some (.bool b)) (ht : b = true → WL P N ops Q rest ((t, .bool true) :: l) w) (hf : b = false → WL P N ops Q rest ((t, .bool false) :: l) w) : WL P N ops Q rest l w := fun a ha => by
  cases b
  · exact hf rfl a (ha.lit hb)
  · exact ht rfl a (ha.lit hb)
/-- The same, at the head operation's guard. -/
theorem WL.gsplit {o : Oper} {j t : Nat} {want b : Bool} (_hg : o.guard = some (j, want)) (_hd : (ops[j]?).bind (·.dst) = some t) (hb : look l t = some (.bool b))
    (ht : b = true → WL P N ops Q (o :: rest) ((t, .bool true) :: l) w) (hf : b = false → WL P N ops Q (o :: rest) ((t, .bool false) :: l) w) : WL P N ops Q (o :: rest) l w := WL.split hb ht hf
theorem WL.gsplitD {o : Oper} {j t : Nat} {want : Bool} {p : Prop} [Decidable p] (_hg : o.guard = some (j, want)) (_hd : (ops[j]?).bind (·.dst) = some t) (hb : look l t = some (.bool (decide p)))
    (ht : p → WL P N ops Q (o :: rest) ((t, .bool true) :: l) w) (hf : ¬ p → WL P N ops Q (o :: rest) ((t, .bool false) :: l) w) : WL P N ops Q (o :: rest) l w :=
  WL.split hb (fun h => ht (of_decide_eq_true h)) (fun h => hf (of_decide_eq_false h))
theorem WL.gsplitND {o : Oper} {j t : Nat} {want : Bool} {p : Prop} [Decidable p] (_hg : o.guard = some (j, want)) (_hd : (ops[j]?).bind (·.dst) = some t) (hb : look l t = some (.bool (!decide p)))
    (ht : ¬ p → WL P N ops Q (o :: rest) ((t, .bool true) :: l) w) (hf : p → WL P N ops Q (o :: rest) ((t, .bool false) :: l) w) : WL P N ops Q (o :: rest) l w :=
  WL.split hb (fun h => ht (by simpa using h)) (fun h => hf (by simpa using h))
theorem WL.gsplitN {o : Oper} {j t : Nat} {want b : Bool} (_hg : o.guard = some (j, want)) (_hd : (ops[j]?).bind (·.dst) = some t) (hb : look l t = some (.bool (!b)))
    (ht : b = false → WL P N ops Q (o :: rest) ((t, .bool true) :: l) w) (hf : b = true → WL P N ops Q (o :: rest) ((t, .bool false) :: l) w) : WL P N ops Q (o :: rest) l w :=
  WL.split hb (fun h => ht (by simpa using h)) (fun h => hf (by simpa using h))
end

/-! ### One operation -/

def OpW (P : Program) (N : Nat) (ops : Array Oper) (Q : Exit → Fr → World → Prop) (o : Oper) (l : Fr) (w : World) (K : Fr → World → Prop) : Prop :=
  ∀ a, Rep N a l → ∀ K' : Act → World → Prop, (∀ a' l' w', Rep N a' l' → K l' w' → K' a' w') →
    (if Region.wanted o (yielded ops a.tmps) then o.wp P a w K' (lft N Q) ∨ (o.asks P a w ∧ LetsOut (lft N Q)) else K' (a.put o.dst undef) w)

section
variable {P : Program} {N : Nat} {Q : Exit → Fr → World → Prop} {l : Fr} {w w' : World} {ops : Array Oper} {K : Fr → World → Prop}

theorem WL.step {o : Oper} {rest : List Oper} (h : OpW P N ops Q o l w (fun l' w' => WL P N ops Q rest l' w')) : WL P N ops Q (o :: rest) l w :=
  fun a ha => h a ha (wpList P ops (lft N Q) rest) (fun a' _ _ ha' hk => hk a' ha')

theorem OpW.val {d : Nat} {op : Op} {ty : TypeId} {pos : String} {af : Array Edge} {g : Option (Nat × Bool)} {v : Value}
    (hr : ∀ a, Rep N a l → (execOp a.eval ⟨some d, op, ty, pos, af, g⟩).run P w = .ok (.value v) w')
    (k : K ((d, v) :: l) w') (hg : wantedL ops l g = some true := by rfl) (hd : Nat.blt d N = true := by rfl) : OpW P N ops Q ⟨some d, op, ty, pos, af, g⟩ l w K := fun a ha K' hK => by
  rw [wantedL_sound (o := ⟨some d, op, ty, pos, af, g⟩) ha hg]
  refine .inl ?_
  unfold Oper.wp
  rw [hr a ha]
  exact hK _ _ _ (ha.put (Nat.blt_eq.mp hd) v) k

theorem OpW.unit {op : Op} {ty : TypeId} {pos : String} {af : Array Edge} {g : Option (Nat × Bool)}
    (hr : ∀ a, Rep N a l → (execOp a.eval ⟨none, op, ty, pos, af, g⟩).run P w = .ok .skip w')
    (k : K l w') (hg : wantedL ops l g = some true := by rfl) : OpW P N ops Q ⟨none, op, ty, pos, af, g⟩ l w K := fun a ha K' hK => by
  rw [wantedL_sound (o := ⟨none, op, ty, pos, af, g⟩) ha hg]
  refine .inl ?_
  unfold Oper.wp
  rw [hr a ha]
  exact hK _ _ _ ha k

/-- An operation whose guard is not met. -/
theorem OpW.pass {d : Nat} {op : Op} {ty : TypeId} {pos : String} {af : Array Edge} {g : Option (Nat × Bool)}
    (hg : wantedL ops l g = some false) (k : K ((d, undef) :: l) w) (hd : Nat.blt d N = true := by rfl) : OpW P N ops Q ⟨some d, op, ty, pos, af, g⟩ l w K := fun a ha K' hK => by
  rw [wantedL_sound (o := ⟨some d, op, ty, pos, af, g⟩) ha hg]
  exact hK _ _ _ (ha.put (Nat.blt_eq.mp hd) undef) k
theorem OpW.passN {op : Op} {ty : TypeId} {pos : String} {af : Array Edge} {g : Option (Nat × Bool)}
    (hg : wantedL ops l g = some false) (k : K l w) : OpW P N ops Q ⟨none, op, ty, pos, af, g⟩ l w K := fun a ha K' hK => by
  rw [wantedL_sound (o := ⟨none, op, ty, pos, af, g⟩) ha hg]
  exact hK _ _ _ ha k

/-- A function of the program that has a body. -/
class FuncTy (P : Program) (f : FuncId) : Prop where
  is : ∃ fn, P.funcs[f]? = some fn ∧ (fn.name == "runtime.NumGoroutine") = false ∧ fn.body.isNone = false

theorem run_callFunc {f : FuncId} [h : FuncTy P f] (args : Array Value) : (callFunc f args).run P w = .ok (.enter f args) w := by
  obtain ⟨fn, h1, h2, h3⟩ := h.is
  have h4 : (fn.name = "runtime.NumGoroutine") = False := by simpa using h2
  have h5 : (fn.body = none) = False := by cases hb : fn.body <;> simp_all
  simp [callFunc, program, Sem.run_bind, Sem.run, h1, h4, h5, Result.andThen]

def evs (l : Fr) : List Operand → Option (List Value)
  | [] => some []
  | x :: xs => match ev l x, evs l xs with
    | some v, some vs => some (v :: vs)
    | _, _ => none

theorem evs_map {a : Act} (ha : Rep N a l) : ∀ {xs : List Operand} {vs : List Value}, evs l xs = some vs → xs.map a.eval = vs
  | [], vs, h => by simpa [evs] using h
  | x :: xs, vs, h => by
    unfold evs at h
    split at h
    · rename_i v vs' h1 h2
      simp only [Option.some.injEq] at h
      subst h
      simp [ha.ev h1, evs_map ha h2]
    · cases h

/-- A call of a function by its contract. -/
theorem OpW.call {d : Nat} {f : FuncId} [FuncTy P f] {fx : Operand} {xs : List Operand} {tys : Array TypeId} {ty : TypeId} {pos : String} {af : Array Edge} {g : Option (Nat × Bool)} {vs cap : List Value} {fst : List Value}
    (hf : ev l fx = some (.func (.func f) fst.toArray cap.toArray)) (hx : evs l xs = some vs)
    (hc : Calls P f (fst ++ vs ++ cap).toArray w fun e w' => ∃ v, e = .returned v ∧ K ((d, v) :: l) w')
    (hg : wantedL ops l g = some true := by rfl) (hd : Nat.blt d N = true := by rfl) :
    OpW P N ops Q ⟨some d, .call { callee := .value fx, args := xs.toArray, argTypes := tys }, ty, pos, af, g⟩ l w K := fun a ha K' hK => by
  rw [wantedL_sound (o := ⟨some d, _, ty, pos, af, g⟩) ha hg]
  refine .inl ?_
  have hm : xs.map a.eval = vs := evs_map ha hx
  have hr : (execOp a.eval ⟨some d, .call { callee := .value fx, args := xs.toArray, argTypes := tys }, ty, pos, af, g⟩).run P w = .ok (.enter f (fst ++ vs ++ cap).toArray) w := by
    simp [execOp, resolve, ha.ev hf, Deferred.ofValue, invoke, hm, run_callFunc]
  unfold Oper.wp
  rw [hr]
  refine hc.mono fun e w1 ⟨v, he, hk⟩ => ?_
  subst he
  exact hK _ _ _ (ha.put (Nat.blt_eq.mp hd) v) hk
end

end Go.Fw
/- The operations of the frame logic, one law for each kind. -/
namespace Go.Fw
open Go

section
variable {P : Program} {N : Nat} {Q : Exit → Fr → World → Prop} {l : Fr} {w w' : World} {ops : Array Oper} {K : Fr → World → Prop}
variable {d : Nat} {ty : TypeId} {pos : String} {af : Array Edge} {g : Option (Nat × Bool)}

def cmpInt : BinOp → Int → Int → Option Bool
  | .eql, a, b => some (decide (a = b))
  | .neq, a, b => some (decide (a ≠ b))
  | .lss, a, b => some (decide (a < b))
  | .leq, a, b => some (decide (a ≤ b))
  | .gtr, a, b => some (decide (b < a))
  | .geq, a, b => some (decide (b ≤ a))
  | _, _, _ => none

/-- What the operations that look at the frame alone yield. -/
def simple (l : Fr) : Op → Option Value
  | .move x => ev l x
  | .assign x => ev l x
  | .pick c a b =>
    match ev l c with
    | some (.bool true) => ev l a
    | some (.bool false) => ev l b
    | _ => none
  | .binOp op _ x y _ =>
    match ev l x, ev l y with
    | some (.int .i64 a), some (.int .i64 b) =>
      match cmpInt op a b with
      | some r => some (.bool r)
      | none => none
    | some (.int .u8 a), some (.int .u8 b) =>
      match cmpInt op a b with
      | some r => some (.bool r)
      | none => none
    | _, _ => none
  | .unOp .not _ x =>
    match ev l x with
    | some (.bool b) => some (.bool !b)
    | _ => none
  | .extract t i =>
    match ev l t with
    | some (.tuple vs) => vs[i]?
    | _ => none
  | .makeFunc fn first captured =>
    match evs l first.toList, evs l captured.toList with
    | some a, some b => some (.func fn a.toArray b.toArray)
    | _, _ => none
  | _ => none

theorem run_eqGuardInt {op : BinOp} {a b : Int} (k : IntKind) (t : TypeId) (x y : Operand) : (eqGuard op t x y (.int k a) (.int k b)).run P w = .ok () w := by
  cases op <;> simp [eqGuard]
theorem run_cmpInt {op : BinOp} {a b : Int} {r : Bool} (k : IntKind) (t : TypeId) (h : cmpInt op a b = some r) :
    (binOp op t (.int k a) (.int k b)).run P w = .ok (.bool r) w := by
  cases op <;> simp only [cmpInt, Option.some.injEq, reduceCtorEq] at h <;> subst h <;> simp [binOp, Op.intCmp]
  all_goals (by_cases e : a = b <;> simp [e])

theorem run_simple {op : Op} {v : Value} {dst : Option Tmp} (h : simple l op = some v) (a : Act) (ha : Rep N a l) :
    (execOp a.eval ⟨dst, op, ty, pos, af, g⟩).run P w = .ok (.value v) w := by
  cases op <;> simp only [simple] at h
  case move x => simp [execOp, ha.ev h]
  case assign x => simp [execOp, ha.ev h]
  case pick c x y =>
    split at h
    · rename_i hc; simp [execOp, ha.ev hc, ha.ev h, asBool]
    · rename_i hc; simp [execOp, ha.ev hc, ha.ev h, asBool]
    · cases h
  case binOp op t x y t' =>
    split at h
    · rename_i p q hx hy
      split at h
      · rename_i r hr
        simp only [Option.some.injEq] at h
        subst h
        simp [execOp, ha.ev hx, ha.ev hy, run_eqGuardInt, run_cmpInt .i64 t hr]
      · cases h
    · rename_i p q hx hy
      split at h
      · rename_i r hr
        simp only [Option.some.injEq] at h
        subst h
        simp [execOp, ha.ev hx, ha.ev hy, run_eqGuardInt, run_cmpInt .u8 t hr]
      · cases h
    · cases h
  case unOp op t x =>
    cases op
    case not =>
      simp only at h
      split at h
      · rename_i b hb
        simp only [Option.some.injEq] at h
        subst h
        simp [execOp, ha.ev hb, Op.unary]
      · cases h
    all_goals cases h
  case extract t i =>
    split at h
    · rename_i vs hv
      simp [execOp, ha.ev hv, Instr.extract, h]
    · cases h
  case makeFunc fn first captured =>
    split at h
    · rename_i x y hx hy
      simp only [Option.some.injEq] at h
      subst h
      have h1 : first.map a.eval = x.toArray := by rw [← evs_map ha hx, ← Array.toList_map]
      have h2 : captured.map a.eval = y.toArray := by rw [← evs_map ha hy, ← Array.toList_map]
      simp [execOp, Instr.makeFunc, h1, h2]
    · cases h
  all_goals cases h

/-- An operation that looks at the frame alone. -/
theorem o_s {op : Op} {v : Value} (h : simple l op = some v) (k : K ((d, v) :: l) w)
    (hg : wantedL ops l g = some true := by rfl) (hd : Nat.blt d N = true := by rfl) : OpW P N ops Q ⟨some d, op, ty, pos, af, g⟩ l w K :=
  OpW.val (run_simple h) k hg hd

/-! The program's table of types, as far as an operation asks it. -/
/-- A slice type whose elements are of one cell. -/
class SliceTy (P : Program) (t : TypeId) (e : outParam TypeId) (z : outParam Value) (bytes : outParam Nat) : Prop where
  und : P.underlying t = some (.slice e)
  info : (P.info? e).map (fun i => (i.zero, i.size, i.bytes)) = some (some z, 1, bytes)
  one : z.cells = #[z]
/-- A type of one cell. -/
class CellTy (P : Program) (t : TypeId) : Prop where
  und : ∃ dsc, P.underlying t = some dsc ∧ (∀ fs, dsc ≠ .struct fs) ∧ (∀ n e, dsc ≠ .array n e)
  size : (P.info? t).map (·.size) = some 1
class StructTy (P : Program) (t : TypeId) (n : outParam Nat) (z : outParam (Array Value)) : Prop where
  und : ∃ fs, P.underlying t = some (.struct fs)
  size : (P.info? t).map (fun i => (i.zero, i.size)) = some (some (.agg z), n)
class IntTy (P : Program) (t : TypeId) (k : outParam IntKind) : Prop where
  und : P.underlying t = some (.int k)
class StrTy (P : Program) (t : TypeId) : Prop where
  und : P.underlying t = some .string
class FieldTy (P : Program) (s : TypeId) (f : Nat) (off : outParam Nat) : Prop where
  at_ : ∀ a w, (Instr.fieldAt s (.pointer (some a)) f).run P w = .ok (.pointer (some (a.add off))) w
/-- A type with a zero value of one cell. -/
class ZeroTy (P : Program) (t : TypeId) (z : outParam Value) : Prop where
  zero : (P.info? t).map (fun i => i.zero) = some (some z)

theorem o_len {t e : TypeId} {z : Value} {bytes : Nat} [h : SliceTy P t e z bytes] {x : Operand} {a : Option Addr} {n c : Nat}
    (hx : ev l x = some (.slice a n c)) (k : K ((d, .int .i64 n) :: l) w) (hg : wantedL ops l g = some true := by rfl) (hd : Nat.blt d N = true := by rfl) :
    OpW P N ops Q ⟨some d, .call { callee := .builtin .len, args := #[x], argTypes := #[t] }, ty, pos, af, g⟩ l w K :=
  OpW.val (fun fr ha => by simp [execOp, resolve, invoke, builtin, Builtin.len_, ha.ev hx, run_underlying h.und, goInt]) k hg hd

theorem o_lenS {t : TypeId} [h : StrTy P t] {x : Operand} {s : ByteArray}
    (hx : ev l x = some (.string s)) (k : K ((d, .int .i64 s.size) :: l) w) (hg : wantedL ops l g = some true := by rfl) (hd : Nat.blt d N = true := by rfl) :
    OpW P N ops Q ⟨some d, .call { callee := .builtin .len, args := #[x], argTypes := #[t] }, ty, pos, af, g⟩ l w K :=
  OpW.val (fun fr ha => by simp [execOp, resolve, invoke, builtin, Builtin.len_, ha.ev hx, run_underlying h.und, goInt]) k hg hd

/-- In the range of int64. -/
def InI (z : Int) : Prop := -9223372036854775808 ≤ z ∧ z ≤ 9223372036854775807

theorem wrap_in {z : Int} (h : InI z) : IntKind.i64.wrap z = z := by
  unfold InI at h
  have : z % 18446744073709551616 = if 0 ≤ z then z else z + 18446744073709551616 := by split <;> omega
  simp only [IntKind.wrap, IntKind.bits, IntKind.signed]
  show (if _ then _ else _) = z
  simp only [show (2 : Int) ^ 64 = 18446744073709551616 from by decide, show (2 : Int) ^ (64 - 1) = 9223372036854775808 from by decide, this]
  split <;> split at * <;> simp_all <;> omega

theorem o_add {x y : Operand} {t t' : TypeId} {a b : Int} (hx : ev l x = some (.int .i64 a)) (hy : ev l y = some (.int .i64 b)) (hb : InI (a + b)) (k : K ((d, .int .i64 (a + b)) :: l) w)
    (hg : wantedL ops l g = some true := by rfl) (hd : Nat.blt d N = true := by rfl) : OpW P N ops Q ⟨some d, .binOp .add t x y t', ty, pos, af, g⟩ l w K :=
  OpW.val (fun fr ha => by simp [execOp, ha.ev hx, ha.ev hy, eqGuard, binOp, Op.intArith, wrap_in hb]) k hg hd
theorem o_sub {x y : Operand} {t t' : TypeId} {a b : Int} (hx : ev l x = some (.int .i64 a)) (hy : ev l y = some (.int .i64 b)) (hb : InI (a - b)) (k : K ((d, .int .i64 (a - b)) :: l) w)
    (hg : wantedL ops l g = some true := by rfl) (hd : Nat.blt d N = true := by rfl) : OpW P N ops Q ⟨some d, .binOp .sub t x y t', ty, pos, af, g⟩ l w K :=
  OpW.val (fun fr ha => by simp [execOp, ha.ev hx, ha.ev hy, eqGuard, binOp, Op.intArith, wrap_in hb]) k hg hd
theorem o_mul {x y : Operand} {t t' : TypeId} {a b : Int} (hx : ev l x = some (.int .i64 a)) (hy : ev l y = some (.int .i64 b)) (hb : InI (a * b)) (k : K ((d, .int .i64 (a * b)) :: l) w)
    (hg : wantedL ops l g = some true := by rfl) (hd : Nat.blt d N = true := by rfl) : OpW P N ops Q ⟨some d, .binOp .mul t x y t', ty, pos, af, g⟩ l w K :=
  OpW.val (fun fr ha => by simp [execOp, ha.ev hx, ha.ev hy, eqGuard, binOp, Op.intArith, wrap_in hb]) k hg hd
theorem o_neg {x : Operand} {t : TypeId} {a : Int} (hx : ev l x = some (.int .i64 a)) (hb : InI (-a)) (k : K ((d, .int .i64 (-a)) :: l) w)
    (hg : wantedL ops l g = some true := by rfl) (hd : Nat.blt d N = true := by rfl) : OpW P N ops Q ⟨some d, .unOp .neg t x, ty, pos, af, g⟩ l w K :=
  OpW.val (fun fr ha => by simp [execOp, ha.ev hx, Op.unary, Op.intArith, wrap_in hb]) k hg hd
theorem o_rem {x y : Operand} {t t' : TypeId} {a b : Int} (hx : ev l x = some (.int .i64 a)) (hy : ev l y = some (.int .i64 b)) (hb : b ≠ 0) (k : K ((d, .int .i64 (a.tmod b)) :: l) w)
    (hg : wantedL ops l g = some true := by rfl) (hd : Nat.blt d N = true := by rfl) : OpW P N ops Q ⟨some d, .binOp .rem t x y t', ty, pos, af, g⟩ l w K :=
  OpW.val (fun fr ha => by simp [execOp, ha.ev hx, ha.ev hy, eqGuard, binOp, Op.intDiv, hb]) k hg hd
theorem o_quo {x y : Operand} {t t' : TypeId} {a b : Int} (hx : ev l x = some (.int .i64 a)) (hy : ev l y = some (.int .i64 b)) (hb : b ≠ 0) (hi : InI (a.tdiv b)) (k : K ((d, .int .i64 (a.tdiv b)) :: l) w)
    (hg : wantedL ops l g = some true := by rfl) (hd : Nat.blt d N = true := by rfl) : OpW P N ops Q ⟨some d, .binOp .quo t x y t', ty, pos, af, g⟩ l w K :=
  OpW.val (fun fr ha => by simp [execOp, ha.ev hx, ha.ev hy, eqGuard, binOp, Op.intDiv, hb, wrap_in hi]) k hg hd
/-- A conversion between int and int64. -/
theorem o_conv {t u : TypeId} [h1 : IntTy P t .i64] [h2 : IntTy P u .i64] {x : Operand} {a : Int} (hx : ev l x = some (.int .i64 a)) (hb : InI a) (k : K ((d, .int .i64 a) :: l) w)
    (hg : wantedL ops l g = some true := by rfl) (hd : Nat.blt d N = true := by rfl) : OpW P N ops Q ⟨some d, .convert t u x, ty, pos, af, g⟩ l w K :=
  OpW.val (fun fr ha => by simp [execOp, ha.ev hx, convert, run_underlying h1.und, run_underlying h2.und, Conv.intToInt, wrap_in hb]) k hg hd

theorem isAgg_cell {t : TypeId} [h : CellTy P t] : (isAgg t).run P w = .ok false w := by
  obtain ⟨dsc, h1, h2, h3⟩ := h.und
  cases dsc <;> simp_all [isAgg, run_underlying h1]

theorem run_loadAt_cell {t : TypeId} [CellTy P t] {a : Addr} {v : Value} (hc : w.cell? a = some v) : (Instr.loadAt t (.pointer (some a))).run P w = .ok v w := by
  simp [Instr.loadAt, Instr.sureAddr, loadVar, isAgg_cell, run_load, hc]

theorem o_load {t : TypeId} [CellTy P t] {x : Operand} {a : Addr} {v : Value} (hx : ev l x = some (.pointer (some a))) (hc : w.cell? a = some v) (k : K ((d, v) :: l) w)
    (hg : wantedL ops l g = some true := by rfl) (hd : Nat.blt d N = true := by rfl) : OpW P N ops Q ⟨some d, .load t x, ty, pos, af, g⟩ l w K :=
  OpW.val (fun fr ha => by simp [execOp, ha.ev hx, run_loadAt_cell hc]) k hg hd

theorem o_field {s : TypeId} {f off : Nat} [h : FieldTy P s f off] {x : Operand} {a : Addr} (hx : ev l x = some (.pointer (some a))) (k : K ((d, .pointer (some (a.add off))) :: l) w)
    (hg : wantedL ops l g = some true := by rfl) (hd : Nat.blt d N = true := by rfl) : OpW P N ops Q ⟨some d, .fieldAddr s x f, ty, pos, af, g⟩ l w K :=
  OpW.val (fun fr ha => by simp [execOp, ha.ev hx, h.at_]) k hg hd

theorem SliceTy.size {t e : TypeId} {z : Value} {bytes : Nat} (h : SliceTy P t e z bytes) : (sizeOf e).run P w = .ok 1 w := by
  have := h.info
  cases hi : P.info? e with
  | none => simp [hi] at this
  | some i => simp [hi] at this; simp [sizeOf, typeInfo, hi, this]

theorem run_indexAt_of {t e : TypeId} {z : Value} {bytes : Nat} [h : SliceTy P t e z bytes] {b o n c : Nat} {k : IntKind} {i : Int} (h0 : 0 ≤ i) (h1 : i < n) :
    (Instr.indexAt t (.slice (some ⟨b, o, none⟩) n c) (.int k i)).run P w = .ok (.pointer (some ⟨b, o + i.toNat, none⟩)) w := by
  simp [Instr.indexAt, asIntOf, run_underlying h.und, h0, h1, h.size, Addr.add]
  try (intro e; omega)

theorem o_ix {t e : TypeId} {z : Value} {bytes : Nat} [SliceTy P t e z bytes] {x y : Operand} {b o n c : Nat} {kk : IntKind} {i : Int} (hx : ev l x = some (.slice (some ⟨b, o, none⟩) n c)) (hi : ev l y = some (.int kk i))
    (h0 : 0 ≤ i) (h1 : i < n) (k : K ((d, .pointer (some ⟨b, o + i.toNat, none⟩)) :: l) w)
    (hg : wantedL ops l g = some true := by rfl) (hd : Nat.blt d N = true := by rfl) : OpW P N ops Q ⟨some d, .indexAddr t x y, ty, pos, af, g⟩ l w K :=
  OpW.val (fun fr ha => by simp [execOp, ha.ev hx, ha.ev hi, run_indexAt_of h0 h1]) k hg hd

theorem run_storeAt_cell {t : TypeId} [h : CellTy P t] {a : Addr} {v old : Value} (hv : v.oneCell' = true) (hc : w.cell? a = some old) (hf : w.frozen? a = false) :
    (Instr.storeAt t (.pointer (some a)) v).run P w = .ok () (w.setCell a v) := by
  have hs := h.size
  cases hi : P.info? t with
  | none => simp [hi] at hs
  | some i =>
    simp [hi] at hs
    have hz : v.cells = #[v] := by cases v <;> simp_all [Value.cells, Value.oneCell']
    simp [Instr.storeAt, Instr.sureAddr, storeVar, sizeOf, typeInfo, hi, hs, hz, storeCells, run_store P w a v .plain hv, hc, hf, Addr.add]

theorem o_store {t : TypeId} [CellTy P t] {x y : Operand} {a : Addr} {v old : Value} (hx : ev l x = some (.pointer (some a))) (hy : ev l y = some v) (hc : w.cell? a = some old) (hf : w.frozen? a = false)
    (k : K l (w.setCell a v)) (hv : v.oneCell' = true := by rfl)
    (hg : wantedL ops l g = some true := by rfl) : OpW P N ops Q ⟨none, .store t x y, ty, pos, af, g⟩ l w K :=
  OpW.unit (fun fr ha => by simp [execOp, ha.ev hx, ha.ev hy, run_storeAt_cell hv hc hf]) k hg

end
end Go.Fw
/- Data in memory: slices that are read, slices that the call owns, blocks of a variable; and the operations that make or write them. -/
namespace Go.Fw
open Go Go.RowKit

/-- The blocks from lo on, below hi, are as they were. -/
def Same (lo hi : Nat) (w w' : World) : Prop := ∀ k, lo ≤ k → k < hi → w'.heap[k]? = w.heap[k]?

theorem Same.trans {lo hi : Nat} {a b c : World} (h : Same lo hi a b) (h' : Same lo hi b c) : Same lo hi a c := fun k h1 h2 => (h' k h1 h2).trans (h k h1 h2)
theorem Same.mono {lo hi lo' hi' : Nat} {a b : World} (h : Same lo hi a b) (h1 : lo ≤ lo') (h2 : hi' ≤ hi) : Same lo' hi' a b := fun k a1 a2 => h k (by omega) (by omega)
theorem Same.of_below {B lo hi : Nat} {w w' : World} (h : Below B w w') (hB : hi ≤ B) : Same lo hi w w' := fun k _ h2 => h.block k (by omega)

/-- Nothing has turned but the count of draws. -/
structure Still (w w' : World) : Prop where
  heap : w'.heap = w.heap
  os : w'.os = w.os
  tape : w'.tape = w.tape
  output : w'.output = w.output

theorem Still.refl (w : World) : Still w w := ⟨rfl, rfl, rfl, rfl⟩
theorem Still.trans {a b c : World} (h : Still a b) (h' : Still b c) : Still a c := ⟨h'.heap.trans h.heap, h'.os.trans h.os, h'.tape.trans h.tape, h'.output.trans h.output⟩
theorem Still.drew (w : World) : Still w w.drew := ⟨rfl, rfl, rfl, rfl⟩
theorem Still.below {w w' : World} (h : Still w w') (B : Nat) : Below B w w' := ⟨h.os, h.tape, h.output, by rw [h.heap]; exact Nat.le_refl _, fun k _ => by rw [h.heap]⟩
theorem Still.same {w w' : World} (h : Still w w') (lo hi : Nat) : Same lo hi w w' := fun k _ _ => by rw [h.heap]
theorem Still.size {w w' : World} (h : Still w w') : w'.heap.size = w.heap.size := by rw [h.heap]

/-- A slice whose elements are of one cell each: element i is what R says of xs[i]. Its memory lies in the blocks from lo on, below hi. -/
def SL {α : Type} (R : Nat → Nat → World → Value → α → Prop) (lo hi : Nat) (w : World) (v : Value) (xs : List α) : Prop :=
  hi ≤ w.heap.size ∧ ∃ a c, v = .slice a xs.length c ∧ xs.length ≤ maxLen ∧ (xs.length ≤ c ∧ (a = none → c = 0)) ∧
    ∀ (i : Nat) (x : α), xs[i]? = some x → ∃ b o u, a = some ⟨b, o, none⟩ ∧ lo ≤ b ∧ b < hi ∧ w.cell? ⟨b, o + i, none⟩ = some u ∧ R lo hi w u x

/-- R hangs on the blocks from lo on, below hi, alone. -/
def Stable {α : Type} (R : Nat → Nat → World → Value → α → Prop) : Prop :=
  (∀ lo hi w w' u x, Same lo hi w w' → hi ≤ w'.heap.size → R lo hi w u x → R lo hi w' u x) ∧
  (∀ lo hi lo' hi' w u x, lo' ≤ lo → hi ≤ hi' → hi' ≤ w.heap.size → R lo hi w u x → R lo' hi' w u x)

theorem SL.stable {α : Type} {R : Nat → Nat → World → Value → α → Prop} (hR : Stable R) : Stable (SL R) := by
  refine ⟨fun lo hi w w' u xs hs hz h => ?_, fun lo hi lo' hi' w u xs h1 h2 hz h => ?_⟩
  · obtain ⟨_, a, c, rfl, hl, hn, h⟩ := h
    refine ⟨hz, a, c, rfl, hl, hn, fun i x hx => ?_⟩
    obtain ⟨b, o, u, ha, hb1, hb2, hc, hr⟩ := h i x hx
    exact ⟨b, o, u, ha, hb1, hb2, by rw [World.cell?_of_block (hs b hb1 hb2)]; exact hc, hR.1 _ _ _ _ _ _ hs hz hr⟩
  · obtain ⟨_, a, c, rfl, hl, hn, h⟩ := h
    refine ⟨hz, a, c, rfl, hl, hn, fun i x hx => ?_⟩
    obtain ⟨b, o, u, ha, hb1, hb2, hc, hr⟩ := h i x hx
    exact ⟨b, o, u, ha, by omega, by omega, hc, hR.2 _ _ _ _ _ _ _ h1 h2 hz hr⟩

def RI (_ _ : Nat) (_ : World) (u : Value) (x : Int) : Prop := u = .int .i64 x
def RB (_ _ : Nat) (_ : World) (u : Value) (x : Bool) : Prop := u = .bool x
def RS (_ _ : Nat) (_ : World) (u : Value) (x : ByteArray) : Prop := u = .string x ∧ x.size ≤ maxLen

theorem RI.stable : Stable RI := ⟨fun _ _ _ _ _ _ _ _ h => h, fun _ _ _ _ _ _ _ _ _ _ h => h⟩
theorem RB.stable : Stable RB := ⟨fun _ _ _ _ _ _ _ _ h => h, fun _ _ _ _ _ _ _ _ _ _ h => h⟩
theorem RS.stable : Stable RS := ⟨fun _ _ _ _ _ _ _ _ h => h, fun _ _ _ _ _ _ _ _ _ _ h => h⟩

/-- A slice of integers; a slice of such slices. -/
abbrev IS := SL RI
abbrev ISS := SL IS

theorem IS.stable : Stable IS := SL.stable RI.stable
theorem ISS.stable : Stable ISS := SL.stable IS.stable

section
variable {α : Type} {R : Nat → Nat → World → Value → α → Prop} {lo hi : Nat} {w w' : World} {v : Value} {xs : List α}

theorem SL.same (hR : Stable R) (h : SL R lo hi w v xs) (hs : Same lo hi w w') (hz : hi ≤ w'.heap.size) : SL R lo hi w' v xs := (SL.stable hR).1 _ _ _ _ _ _ hs hz h
theorem SL.wide (hR : Stable R) (h : SL R lo hi w v xs) {lo' hi' : Nat} (h1 : lo' ≤ lo) (h2 : hi ≤ hi') (hz : hi' ≤ w.heap.size) : SL R lo' hi' w v xs := (SL.stable hR).2 _ _ _ _ _ _ _ h1 h2 hz h
/-- Behind a call that leaves the memory below B as it was. -/
theorem SL.below (hR : Stable R) (h : SL R lo hi w v xs) {B : Nat} (hb : Below B w w') (hB : hi ≤ B) : SL R lo hi w' v xs :=
  SL.same hR h (Same.of_below hb hB) (Nat.le_trans h.1 hb.size)
theorem SL.still (hR : Stable R) (h : SL R lo hi w v xs) (hs : Still w w') : SL R lo hi w' v xs := SL.same hR h (hs.same lo hi) (by rw [hs.size]; exact h.1)
theorem SL.len (h : SL R lo hi w v xs) : xs.length ≤ maxLen := by obtain ⟨_, a, c, _, h, _⟩ := h; exact h
theorem SL.shape (h : SL R lo hi w v xs) : ∃ a c, v = .slice a xs.length c := by obtain ⟨_, a, c, h, _⟩ := h; exact ⟨a, c, h⟩
theorem SL.shapeC (h : SL R lo hi w v xs) : ∃ a c, v = .slice a xs.length c ∧ xs.length ≤ c := by obtain ⟨_, a, c, h, _, h2, _⟩ := h; exact ⟨a, c, h, h2.1⟩
/-- The first i of it. -/
theorem SL.take {a : Option Addr} {n c i : Nat} (h : SL R lo hi w (.slice a n c) xs) (hi' : i ≤ xs.length) : SL R lo hi w (.slice a i c) (xs.take i) := by
  obtain ⟨hz, a', c', hv, hl, hn, h⟩ := h
  simp only [Value.slice.injEq] at hv
  obtain ⟨rfl, rfl, rfl⟩ := hv
  have hlen : (xs.take i).length = i := by rw [List.length_take]; omega
  refine ⟨hz, a, c, by rw [hlen], by omega, ⟨by omega, hn.2⟩, fun j x hx => ?_⟩
  rw [List.getElem?_take] at hx
  split at hx
  · exact h j x hx
  · cases hx
theorem SL.hi_le (h : SL R lo hi w v xs) : hi ≤ w.heap.size := h.1
theorem SL.nil (w : World) (hz : hi ≤ w.heap.size) : SL R lo hi w (.slice none 0 0) [] := ⟨hz, none, 0, rfl, Nat.zero_le _, ⟨Nat.le_refl _, fun _ => rfl⟩, fun i x h => by simp at h⟩
end

/-- A slice that the call owns: it is nil, or lies at the head of an unfrozen block from lo on. -/
def Own (lo : Nat) (e : TypeId) (w : World) (v : Value) (us : List Value) : Prop := w.ownsRow lo e 1 v us.length us

def Ints (xs : List Int) : List Value := xs.map (Value.int .i64)
theorem Ints_append (xs ys : List Int) : Ints (xs ++ ys) = Ints xs ++ Ints ys := by simp [Ints]
theorem Ints_length (xs : List Int) : (Ints xs).length = xs.length := by simp [Ints]
theorem Ints_get (xs : List Int) (i : Nat) : (Ints xs)[i]? = (xs[i]?).map (Value.int .i64) := by simp [Ints]

section
variable {lo : Nat} {e : TypeId} {w w' : World} {v : Value} {us : List Value}

theorem Own.nil (w : World) (lo : Nat) (e : TypeId) : Own lo e w (.slice none 0 0) [] := World.ownsRow_nil w lo e 1

theorem Own.shape (h : Own lo e w v us) : ∃ a c, v = .slice a us.length c ∧ us.length ≤ c ∧ us.length ≤ maxLen ∧ (a = none → c = 0 ∧ us = []) := by
  obtain ⟨_, ⟨rfl, h0⟩ | ⟨g, cap, cur, rfl, _, _, hn, hm, _, _⟩⟩ := h
  · have : us = [] := List.eq_nil_of_length_eq_zero h0
    subst this
    exact ⟨none, 0, rfl, Nat.le_refl _, Nat.zero_le _, fun _ => ⟨rfl, rfl⟩⟩
  · exact ⟨_, cap, rfl, hn, by omega, fun h => by cases h⟩

/-- Its block. -/
theorem Own.block (h : Own lo e w v us) : ∀ k, v.ownBlock = some k → lo ≤ k ∧ k < w.heap.size := World.ownsRow.lt h

theorem Own.cell (h : Own lo e w v us) {i : Nat} {u : Value} (hu : us[i]? = some u) : ∃ g c, v = .slice (some ⟨g, 0, none⟩) us.length c ∧ lo ≤ g ∧ g < w.heap.size ∧ w.cell? ⟨g, i, none⟩ = some u ∧ w.frozen? ⟨g, i, none⟩ = false ∧ v.ownBlock = some g := by
  have hi : i < us.length := (List.getElem?_eq_some_iff.1 hu).1
  have h0 := h
  obtain ⟨_, ⟨rfl, h0⟩ | ⟨g, cap, cur, rfl, hb, hg, _, _, _, _⟩⟩ := h
  · omega
  · refine ⟨g, cap, rfl, hb, (Array.getElem?_eq_some_iff.1 hg).1, ?_, World.ownsRow.frozenAt h0 i, rfl⟩
    rw [World.ownsRow.cellAt h0 i (by omega)]
    exact hu

/-- It stays owned where its own block is as it was. -/
theorem Own.keep (h : Own lo e w v us) (hs : ∀ k, v.ownBlock = some k → w'.heap[k]? = w.heap[k]?) : Own lo e w' v us := by
  obtain ⟨h1, ⟨rfl, h0⟩ | ⟨g, cap, cur, rfl, hb, hg, rest⟩⟩ := h
  · exact ⟨h1, .inl ⟨rfl, h0⟩⟩
  · exact ⟨h1, .inr ⟨g, cap, cur, rfl, hb, by rw [hs g rfl]; exact hg, rest⟩⟩

theorem Own.below {B : Nat} (h : Own lo e w v us) (hb : Below B w w') (hB : w.heap.size ≤ B) : Own lo e w' v us :=
  h.keep fun k hk => hb.block k (by have := (h.block k hk).2; omega)

theorem Own.still (h : Own lo e w v us) (hs : Still w w') : Own lo e w' v us := h.keep fun k _ => by rw [hs.heap]

theorem Own.lower {lo' : Nat} (h : Own lo e w v us) (hl : lo' ≤ lo) : Own lo' e w v us := by
  obtain ⟨h1, ⟨rfl, h0⟩ | ⟨g, cap, cur, rfl, hb, hg, rest⟩⟩ := h
  · exact ⟨h1, .inl ⟨rfl, h0⟩⟩
  · exact ⟨h1, .inr ⟨g, cap, cur, rfl, by omega, hg, rest⟩⟩

/-- It reads as a slice. -/
theorem Own.toSL {α : Type} {R : Nat → Nat → World → Value → α → Prop} {lo' hi : Nat} {xs : List α} (h : Own lo e w v us) (hl : us.length = xs.length) (hlo : lo' ≤ lo) (hhi : ∀ k, v.ownBlock = some k → k < hi) (hz : hi ≤ w.heap.size)
    (hR : ∀ (i : Nat) u x, us[i]? = some u → xs[i]? = some x → R lo' hi w u x) : SL R lo' hi w v xs := by
  obtain ⟨a, c, hv, hc, hm, hn⟩ := h.shape
  refine ⟨hz, a, c, by rw [hv, hl], by omega, ⟨by omega, fun ha => (hn ha).1⟩, fun i x hx => ?_⟩
  have hi : i < us.length := by rw [hl]; exact (List.getElem?_eq_some_iff.1 hx).1
  obtain ⟨g, c', hv', hg1, hg2, hcell, _, hob⟩ := h.cell (List.getElem?_eq_getElem hi)
  rw [hv] at hv'
  simp only [Value.slice.injEq] at hv'
  refine ⟨g, 0, us[i], hv'.1, by omega, hhi g hob, by simpa using hcell, hR i _ x (List.getElem?_eq_getElem hi) hx⟩

theorem Own.toIS {lo' : Nat} {xs : List Int} (h : Own lo e w v (Ints xs)) (hlo : lo' ≤ lo) : IS lo' w.heap.size w v xs :=
  h.toSL (Ints_length xs) hlo (fun k hk => (h.block k hk).2) (Nat.le_refl _) fun i u x hu hx => by
    rw [Ints_get, hx] at hu
    simpa [RI] using hu.symm
end

/-- Block b: the cells cs, of element type t, none of them frozen. -/
def Blk (w : World) (b : Nat) (cs : List Value) (t : TypeId) : Prop := w.heap[b]? = some (.cells cs.toArray t (0, 0))

section
variable {w w' : World} {b : Nat} {cs : List Value} {t : TypeId}
theorem Blk.cell (h : Blk w b cs t) {j : Nat} {v : Value} (hj : cs[j]? = some v) : w.cell? ⟨b, j, none⟩ = some v := by
  rw [cell_of_row w b j cs.toArray t (0, 0) h]; simpa using hj
theorem Blk.free (h : Blk w b cs t) (j : Nat) : w.frozen? ⟨b, j, none⟩ = false := frozen_of_row w b j _ t h
theorem Blk.lt (h : Blk w b cs t) : b < w.heap.size := (Array.getElem?_eq_some_iff.1 h).1
theorem Blk.keep (h : Blk w b cs t) (hs : w'.heap[b]? = w.heap[b]?) : Blk w' b cs t := by unfold Blk; rw [hs]; exact h
theorem Blk.below {B : Nat} (h : Blk w b cs t) (hb : Below B w w') (hB : b < B) : Blk w' b cs t := h.keep (hb.block b hB)
theorem Blk.still (h : Blk w b cs t) (hs : Still w w') : Blk w' b cs t := h.keep (by rw [hs.heap])
theorem Blk.new (w : World) (cs : List Value) (t : TypeId) : Blk (w.alloc (.cells cs.toArray t)) w.heap.size cs t := heap_alloc_new w _
theorem Blk.set (h : Blk w b cs t) (j : Nat) (v : Value) : Blk (w.setCell ⟨b, j, none⟩ v) b (cs.set j v) t := by
  unfold Blk
  rw [heap_setCell_same w b j cs.toArray t v h]
  simp
end

/-- What a store into block b leaves: every other block, and the number of blocks. -/
structure But (b : Nat) (w w' : World) : Prop where
  os : w'.os = w.os
  tape : w'.tape = w.tape
  output : w'.output = w.output
  size : w'.heap.size = w.heap.size
  block : ∀ k, k ≠ b → w'.heap[k]? = w.heap[k]?

theorem But.setCell (w : World) (b j : Nat) (v : Value) : But b w (w.setCell ⟨b, j, none⟩ v) :=
  ⟨rfl, rfl, rfl, by simp, fun k hk => heap_setCell_other w ⟨b, j, none⟩ k v hk⟩
theorem But.below {b B : Nat} {w w' : World} (h : But b w w') (hB : B ≤ b) : Below B w w' := ⟨h.os, h.tape, h.output, by rw [h.size]; exact Nat.le_refl _, fun k hk => h.block k (by omega)⟩
theorem But.trans {b : Nat} {x y z : World} (h : But b x y) (h' : But b y z) : But b x z :=
  ⟨h'.os.trans h.os, h'.tape.trans h.tape, h'.output.trans h.output, h'.size.trans h.size, fun k hk => (h'.block k hk).trans (h.block k hk)⟩
theorem But.refl (b : Nat) (w : World) : But b w w := ⟨rfl, rfl, rfl, rfl, fun _ _ => rfl⟩

theorem below_alloc (w : World) (o : Obj) : Below w.heap.size w (w.alloc o) := (Below.refl _ _).alloc (Nat.le_refl _) o
theorem grown_below {w w' : World} {row : Option Nat} {B : Nat} (hg : w.grownBy w' row) (hB : B ≤ w.heap.size) (hr : ∀ k, row = some k → B ≤ k) : Below B w w' := (Below.refl B w).grown hg hB hr

section
variable {P : Program} {N : Nat} {Q : Exit → Fr → World → Prop} {l : Fr} {w w' : World} {ops : Array Oper} {K : Fr → World → Prop}
variable {d : Nat} {ty : TypeId} {pos : String} {af : Array Edge} {g : Option (Nat × Bool)}

theorem cells_of_one {v : Value} (hv : v.oneCell' = true) : v.cells = #[v] := by cases v <;> simp_all [Value.cells, Value.oneCell']

/-- A new variable that holds a value. -/
theorem o_box {t : TypeId} {x : Operand} {v : Value} (hx : ev l x = some v) (k : ∀ w1, Blk w1 w.heap.size v.cells.toList t → Below w.heap.size w w1 → w1.heap.size = w.heap.size + 1 → K ((d, .pointer (some ⟨w.heap.size, 0, none⟩)) :: l) w1)
    (hg : wantedL ops l g = some true := by rfl) (hd : Nat.blt d N = true := by rfl) : OpW P N ops Q ⟨some d, .box t x, ty, pos, af, g⟩ l w K :=
  OpW.val (w' := w.alloc (.cells v.cells t)) (fun fr ha => by simp [execOp, ha.ev hx, Instr.box, newVar, newRow]) (k _ (by simpa using Blk.new w v.cells.toList t) (below_alloc _ _) (by simp)) hg hd

theorem ZeroTy.run {t : TypeId} {z : Value} (h : ZeroTy P t z) : (zeroValue t).run P w = .ok z w := by
  have := h.zero
  cases hi : P.info? t with
  | none => simp [hi] at this
  | some i => simp [hi] at this; simp [zeroValue, typeInfo, hi, this]

theorem o_alloc {t : TypeId} {z : Value} [h : ZeroTy P t z] (k : ∀ w1, Blk w1 w.heap.size z.cells.toList t → Below w.heap.size w w1 → w1.heap.size = w.heap.size + 1 → K ((d, .pointer (some ⟨w.heap.size, 0, none⟩)) :: l) w1)
    (hg : wantedL ops l g = some true := by rfl) (hd : Nat.blt d N = true := by rfl) : OpW P N ops Q ⟨some d, .alloc t, ty, pos, af, g⟩ l w K :=
  OpW.val (w' := w.alloc (.cells z.cells t)) (fun fr ha => by simp [execOp, Instr.alloc, h.run, newVar, newRow]) (k _ (by simpa using Blk.new w z.cells.toList t) (below_alloc _ _) (by simp)) hg hd

/-- A variable of more than one cell is read whole. -/
theorem o_loadS {t : TypeId} {n : Nat} {z : Array Value} [h : StructTy P t n z] {x : Operand} {b : Nat} {cs : List Value} {tt : TypeId} (hx : ev l x = some (.pointer (some ⟨b, 0, none⟩))) (hb : Blk w b cs tt) (hn : cs.length = n)
    (k : K ((d, .agg cs.toArray) :: l) w) (hg : wantedL ops l g = some true := by rfl) (hd : Nat.blt d N = true := by rfl) : OpW P N ops Q ⟨some d, .load t x, ty, pos, af, g⟩ l w K :=
  OpW.val (fun fr ha => by
    obtain ⟨fs, hu⟩ := h.und
    have hs : (P.info? t).map (·.size) = some cs.toArray.size := by
      have := h.size
      cases hi : P.info? t <;> simp_all
    simp [execOp, ha.ev hx, Instr.loadAt, Instr.sureAddr, run_loadVar_row w b tt t cs.toArray (0, 0) _ hb hu rfl hs]) k hg hd

theorem run_storeCells_blk {b : Nat} {t : TypeId} : ∀ (vs : List Value) (j : Nat) (cs : List Value) (w : World), Blk w b cs t → j + vs.length ≤ cs.length → (∀ u ∈ vs, u.oneCell' = true) →
    ∃ w1, (storeCells ⟨b, 0, none⟩ vs j).run P w = .ok () w1 ∧ Blk w1 b (cs.take j ++ vs ++ cs.drop (j + vs.length)) t ∧ But b w w1
  | [], j, cs, w, h, _, _ => ⟨w, by simp [storeCells], by simpa using h, But.refl b w⟩
  | v :: vs, j, cs, w, h, hl, h1 => by
    simp only [List.length_cons] at hl
    have hj : j < cs.length := by omega
    have hadd : (⟨b, 0, none⟩ : Addr).add j = ⟨b, j, none⟩ := by unfold Addr.add; split <;> simp_all
    have hc : w.cell? ⟨b, j, none⟩ = some cs[j] := h.cell (List.getElem?_eq_getElem hj)
    obtain ⟨w1, hr, hb, hw⟩ := run_storeCells_blk vs (j + 1) (cs.set j v) (w.setCell ⟨b, j, none⟩ v) (h.set j v) (by simp; omega) (fun u hu => h1 u (by simp [hu]))
    refine ⟨w1, ?_, ?_, (But.setCell w b j v).trans hw⟩
    · simp [storeCells, hadd, run_store P w ⟨b, j, none⟩ v .plain (h1 v (by simp)), hc, h.free j, hr]
    · have e : (cs.set j v).take (j + 1) ++ vs ++ (cs.set j v).drop (j + 1 + vs.length) = cs.take j ++ (v :: vs) ++ cs.drop (j + (v :: vs).length) := by
        rw [List.take_set, List.drop_set]
        rw [if_pos (by omega)]
        have : (cs.take (j + 1)).set j v = cs.take j ++ [v] := by
          rw [List.take_succ_eq_append_getElem hj, List.set_append]
          simp [Nat.min_eq_left (Nat.le_of_lt hj)]
        rw [this]
        simp [Nat.add_assoc, Nat.add_comm 1]
      rw [e] at hb
      exact hb

/-- A variable of more than one cell is written whole. -/
theorem o_storeS {t : TypeId} {n : Nat} {z : Array Value} [h : StructTy P t n z] {x y : Operand} {b : Nat} {cs vs : List Value} {tt : TypeId} (hx : ev l x = some (.pointer (some ⟨b, 0, none⟩))) (hy : ev l y = some (.agg vs.toArray)) (hb : Blk w b cs tt) (hn : cs.length = n) (hm : vs.length = n)
    (h1 : ∀ u ∈ vs, u.oneCell' = true) (k : ∀ w1, Blk w1 b vs tt → But b w w1 → K l w1)
    (hg : wantedL ops l g = some true := by rfl) : OpW P N ops Q ⟨none, .store t x y, ty, pos, af, g⟩ l w K := by
  obtain ⟨w1, hr, hb1, hw⟩ := run_storeCells_blk (P := P) vs 0 cs w hb (by omega) h1
  have e : cs.take 0 ++ vs ++ cs.drop (0 + vs.length) = vs := by simp [hn, hm]
  rw [e] at hb1
  refine OpW.unit (w' := w1) (fun fr ha => ?_) (k w1 hb1 hw) hg
  have hs := h.size
  cases hi : P.info? t with
  | none => simp [hi] at hs
  | some i =>
    simp [hi] at hs
    simp [execOp, ha.ev hx, ha.ev hy, Instr.storeAt, Instr.sureAddr, storeVar, sizeOf, typeInfo, hi, hs, Value.cells, hm, hr]

theorem SliceTy.zeroRun {t e : TypeId} {z : Value} {bytes : Nat} (h : SliceTy P t e z bytes) : (zeroValue e).run P w = .ok z w := by
  have := h.info
  cases hi : P.info? e with
  | none => simp [hi] at this
  | some i => simp [hi] at this; simp [zeroValue, typeInfo, hi, this]

/-- make([]T, n). -/
theorem o_make {t e : TypeId} {z : Value} {bytes : Nat} [h : SliceTy P t e z bytes] {x y : Operand} {n : Nat} {k1 k2 : IntKind} (hx : ev l x = some (.int k1 n)) (hy : ev l y = some (.int k2 n)) (hb : bytes * n ≤ 281474976710656) (hm : n ≤ maxLen)
    (k : ∀ v w1, Own w.heap.size e w1 v (List.replicate n z) → Below w.heap.size w w1 → w1.heap.size = w.heap.size + 1 → K ((d, v) :: l) w1)
    (hg : wantedL ops l g = some true := by rfl) (hd : Nat.blt d N = true := by rfl) : OpW P N ops Q ⟨some d, .makeSlice t x y, ty, pos, af, g⟩ l w K := by
  obtain ⟨i0, hi, hz0, hz1, hz2⟩ := info_parts h.info
  have hr := run_make (P := P) w t e i0 z h.und hi hz0 k1 k2 (n : Int) (n : Int) (by omega) (Int.le_refl _) (by rw [hz2]; have := Int.natCast_mul bytes n; omega) (by unfold maxLen at hm; omega)
  simp only [Int.toNat_natCast, hz1, Nat.mul_one] at hr
  refine OpW.val (w' := w.alloc (.cells (madeCells z.cells n) e)) (fun fr ha => ?_) (k (.slice (some ⟨w.heap.size, 0, none⟩) n n) _ ?_ (below_alloc _ _) (by simp)) hg hd
  · simp only [execOp, ha.ev hx, ha.ev hy, Sem.run_bind, hr, Result.andThen_ok, Sem.run_pure]
  · have := World.ownsRow_lit (base := w.heap.size) (e := e) (size := 1) w (madeCells z.cells n) n (Nat.le_refl _) hm (by simp [size_madeCells])
    have e2 : (madeCells z.cells n).toList = List.replicate n z := by rw [h.one]; exact toList_madeCells_one z n
    rw [e2] at this
    unfold Own
    rw [List.length_replicate]
    exact this

/-- A slice literal: its elements are written out. -/
theorem o_lit {t e : TypeId} {z : Value} {bytes : Nat} [h : SliceTy P t e z bytes] {n : Nat} {parts : Array (Nat × Operand)} {us : List Value} (hp : parts.toList.map (·.1) = List.range n) (hx : evs l (parts.toList.map (·.2)) = some us) (hn : us.length = n) (hsm : n ≤ 1000) (h1 : ∀ u ∈ us, u.oneCell' = true)
    (k : ∀ v w1, Own w.heap.size e w1 v us → Below w.heap.size w w1 → w1.heap.size = w.heap.size + 1 → v = .slice (some ⟨w.heap.size, 0, none⟩) n n → K ((d, v) :: l) w1)
    (hg : wantedL ops l g = some true := by rfl) (hd : Nat.blt d N = true := by rfl) : OpW P N ops Q ⟨some d, .buildSlice t n parts, ty, pos, af, g⟩ l w K := by
  have fillOk : ∀ (us : List Value) (j : Nat) (cells : Array Value), j + us.length ≤ cells.size → (∀ u ∈ us, u.oneCell' = true) →
      Instr.fill (fun i => some (i * 1, 1)) cells ((us.zipIdx j).map fun x => (x.2, x.1)) = some (cells.toList.take j ++ us ++ cells.toList.drop (j + us.length)).toArray := by
    intro us
    induction us with
    | nil => intro j cells _ _; simp [Instr.fill]
    | cons u us ih =>
      intro j cells hl h1
      simp only [List.length_cons] at hl
      have hc := cells_of_one (h1 u (by simp))
      have := ih (j + 1) (cells.setIfInBounds j u) (by simp; omega) (fun x hx => h1 x (by simp [hx]))
      simp only [List.zipIdx_cons, List.map_cons, Instr.fill, hc, Nat.mul_one]
      rw [if_neg (by simp; omega)]
      simp only [Nat.mul_one] at this
      have e3 : (#[u].zipIdx.foldl (fun cs x => cs.setIfInBounds (j + x.2) x.1) cells) = cells.setIfInBounds j u := by simp
      rw [show (Array.foldl (fun cs x => match x with | (c, j_1) => cs.setIfInBounds (j + j_1) c) cells #[u].zipIdx) = cells.setIfInBounds j u from by simp]
      rw [this]
      congr 2
      have hj : j < cells.toList.length := by simp; omega
      rw [Array.toList_setIfInBounds, List.take_set, List.drop_set, if_pos (by omega)]
      have : (cells.toList.take (j + 1)).set j u = cells.toList.take j ++ [u] := by
        rw [List.take_succ_eq_append_getElem hj, List.set_append]
        simp only [List.length_take]
        rw [if_neg (by omega)]
        simp only [Array.length_toList] at hj ⊢
        simp [show j - min j cells.size = 0 from by omega]
      rw [this]
      simp [Nat.add_assoc, Nat.add_comm 1]
  obtain ⟨i0, hi, hz0, hz1, hz2⟩ := info_parts h.info
  have hlen : parts.toList.length = n := by have := congrArg List.length hp; simpa using this
  have hrun : ∀ fr, Rep N fr l → (Instr.buildSlice t n (parts.map fun (i, x) => (i, fr.eval x))).run P w = .ok (.slice (some ⟨w.heap.size, 0, none⟩) n n) (w.alloc (.cells us.toArray e)) := by
    intro fr ha
    have hm := evs_map ha hx
    have hpl : (parts.map fun (i, x) => (i, fr.eval x)).toList = (us.zipIdx 0).map fun x => (x.2, x.1) := by
      rw [Array.toList_map]
      apply List.ext_getElem?
      intro j
      have h2 := congrArg (·[j]?) hp
      have h3 := congrArg (·[j]?) hm
      simp only [List.getElem?_map] at h2 h3 ⊢
      rw [List.getElem?_zipIdx]
      by_cases hj : j < n
      · rw [List.getElem?_range hj] at h2
        cases hq : parts.toList[j]? with
        | none => simp [hq] at h2
        | some pr => simp [hq] at h2 h3 ⊢; rw [← h3]; simp [h2]
      · rw [List.getElem?_eq_none (by omega), List.getElem?_eq_none (by omega)]
        simp
    have hf := fillOk us 0 (madeCells z.cells (n * 1)) (by simp [size_madeCells, hn]) h1
    rw [show (madeCells z.cells (n * 1)).toList.take 0 ++ us ++ (madeCells z.cells (n * 1)).toList.drop (0 + us.length) = us from by
      rw [List.drop_eq_nil_of_le (by simp [size_madeCells, hn])]; simp] at hf
    by_cases h0 : n = 0
    · subst h0
      have : us = [] := List.eq_nil_of_length_eq_zero hn
      subst this
      have hpn : parts.toList = [] := List.eq_nil_of_length_eq_zero hlen
      simp [Instr.buildSlice, run_underlying h.und, sizeOf, typeInfo, hi, newRow, hpn, Instr.fill]
      rw [show (Array.map (fun _ => (default : Value)) (Array.range 0)) = #[] from Array.eq_empty_of_size_eq_zero (by simp)]
    · have hz := h.zeroRun (w := w)
      have hpl2 : parts.toList.map (fun x => (x.1, fr.eval x.2)) = (us.zipIdx 0).map fun x => (x.2, x.1) := by rw [← hpl, Array.toList_map]
      simp [Instr.buildSlice, run_underlying h.und, sizeOf, typeInfo, hi, hz1, newRow, hz, h0]
      rw [if_neg (by omega)]
      simp only [madeCells, Nat.mul_one] at hf
      simp only [hpl2]
      simp [hf]
  refine OpW.val (fun fr ha => ?_) (k _ (w.alloc (.cells us.toArray e)) ?_ (below_alloc _ _) (by simp) rfl) hg hd
  · simp only [execOp, Sem.run_bind, hrun fr ha, Result.andThen_ok, Sem.run_pure]
  · have := World.ownsRow_lit (base := w.heap.size) (e := e) (size := 1) w us.toArray n (Nat.le_refl _) (by unfold maxLen; omega) (by simp [hn])
    unfold Own
    rw [hn]
    exact this

/-- A struct literal. -/
theorem o_build {t : TypeId} {parts : Array (Nat × Operand)} {us cells : List Value} (hx : evs l (parts.toList.map (·.2)) = some us) (hb : P.built t ((parts.toList.map (·.1)).zip us) = some cells.toArray)
    (k : K ((d, .agg cells.toArray) :: l) w) (hg : wantedL ops l g = some true := by rfl) (hd : Nat.blt d N = true := by rfl) : OpW P N ops Q ⟨some d, .build t parts, ty, pos, af, g⟩ l w K := by
  refine OpW.val (fun fr ha => ?_) k hg hd
  have hm := evs_map ha hx
  have hp : (parts.map fun (i, x) => (i, fr.eval x)).toList = (parts.toList.map (·.1)).zip us := by
    rw [Array.toList_map, ← hm, List.map_map]
    induction parts.toList with
    | nil => rfl
    | cons x r ih => simp [ih]
  have hr := run_build (P := P) w t (parts.map fun (i, x) => (i, fr.eval x)) cells.toArray (by rw [hp]; exact hb)
  simp only [execOp, Sem.run_bind, hr, Result.andThen_ok, Sem.run_pure]

theorem run_sliceH {t e : TypeId} {z : Value} {bytes : Nat} [h : SliceTy P t e z bytes] {a : Option Addr} {n c i : Nat} {kk : IntKind} (hi : i ≤ c) :
    (Instr.sliceAt t (.slice a n c) none (some (.int kk (i : Nat))) none).run P w = .ok (.slice a i c) w := by
  have he : P.elem t = e := by have := h.und; simp [Program.elem, this]
  have hu : P.underlying t = some (.slice (P.elem t)) := by rw [he]; exact h.und
  rw [run_sliceAt_slice w t _ _ _ _ hu, run_slice_h w t a n c hu kk (i : Nat) (by omega) (by omega), he, h.size]
  cases a with
  | none => simp [sliced]
  | some ad => simp [sliced, Addr.add]
/-- x[:i]. -/
theorem o_sliceH {t e : TypeId} {z : Value} {bytes : Nat} [SliceTy P t e z bytes] {x y : Operand} {a : Option Addr} {n c i : Nat} {kk : IntKind} (hx : ev l x = some (.slice a n c)) (hy : ev l y = some (.int kk (i : Nat))) (hi : i ≤ c)
    (k : K ((d, .slice a i c) :: l) w) (hg : wantedL ops l g = some true := by rfl) (hd : Nat.blt d N = true := by rfl) : OpW P N ops Q ⟨some d, .slice t x none (some y) none, ty, pos, af, g⟩ l w K :=
  OpW.val (fun fr ha => by simp [execOp, ha.ev hx, ha.ev hy, run_sliceH (P := P) (t := t) hi]) k hg hd
end
end Go.Fw
/- append on a slice that the call owns; how a call is entered and left; regions whose order is open. -/
namespace Go.Fw
open Go Go.RowKit

/-- The first n cells behind a slice value. -/
def Src (w : World) (v : Value) (news : List Value) : Prop :=
  ∃ a c, v = .slice a news.length c ∧ ∀ (i : Nat) u, news[i]? = some u → ∃ b o, a = some ⟨b, o, none⟩ ∧ w.cell? ⟨b, o + i, none⟩ = some u

theorem Own.src {lo : Nat} {e : TypeId} {w : World} {v : Value} {us : List Value} (h : Own lo e w v us) : Src w v us := by
  obtain ⟨a, c, hv, _⟩ := h.shape
  refine ⟨a, c, hv, fun i u hu => ?_⟩
  obtain ⟨g, c', hv', _, _, hcell, _⟩ := h.cell hu
  rw [hv] at hv'
  simp only [Value.slice.injEq] at hv'
  exact ⟨g, 0, hv'.1, by simpa using hcell⟩

theorem IS.src {lo hi : Nat} {w : World} {v : Value} {xs : List Int} (h : IS lo hi w v xs) : Src w v (Ints xs) := by
  obtain ⟨_, a, c, hv, _, _, h⟩ := h
  refine ⟨a, c, by rw [hv, Ints_length], fun i u hu => ?_⟩
  rw [Ints_get] at hu
  cases hx : xs[i]? with
  | none => simp [hx] at hu
  | some x =>
    simp [hx] at hu
    obtain ⟨b, o, u', ha, _, _, hc, hr⟩ := h i x hx
    exact ⟨b, o, ha, by rw [hc, hr, hu]⟩

theorem one1 {u : Value} (h : u.oneCell' = true) : ∀ x ∈ [u], x.oneCell' = true := fun x hx => by simp only [List.mem_singleton] at hx; rw [hx]; exact h
theorem one0 : ∀ x ∈ ([] : List Value), x.oneCell' = true := fun x hx => by simp at hx

theorem Ints_one {xs : List Int} : ∀ u ∈ Ints xs, u.oneCell' = true := by
  intro u hu
  obtain ⟨x, _, rfl⟩ := List.mem_map.1 hu
  rfl

section
variable {P : Program} {N : Nat} {Q : Exit → Fr → World → Prop} {l : Fr} {w w' : World} {ops : Array Oper} {K : Fr → World → Prop}
variable {d : Nat} {ty : TypeId} {pos : String} {af : Array Edge} {g : Option (Nat × Bool)}

theorem run_append {t e : TypeId} {z : Value} {bytes : Nat} (h : SliceTy P t e z bytes) {lo : Nat} {v vx : Value} {us news : List Value} (hown : Own lo e w v us) (hsrc : Src w vx news) (h1 : ∀ u ∈ news, u.oneCell' = true)
    (hm : us.length + news.length ≤ maxLen) (hb : (us.length + news.length) * bytes ≤ 140737488355328) (hlo : lo ≤ w.heap.size) :
    ∃ v' w', (Builtin.append_ #[t, t] ty #[v, vx]).run P w = .ok v' w' ∧ Own lo e w' v' (us ++ news) ∧ w.grownBy w' v.ownBlock ∧ (v' = .slice none 0 0 ↔ v = .slice none 0 0 ∧ news = []) := by
  obtain ⟨i0, hi, hz0, hz1, hz2⟩ := info_parts h.info
  obtain ⟨a, c, rfl, hs⟩ := hsrc
  cases a with
  | some ad =>
    have hnews : ∀ j u, news[j]? = some u → w.cell? (ad.add j) = some u := fun j u hu => by
      obtain ⟨b, o, he, hc⟩ := hs j u hu
      simp only [Option.some.injEq] at he
      subst he
      have : (⟨b, o, none⟩ : Addr).add j = ⟨b, o + j, none⟩ := by unfold Addr.add; split <;> simp_all
      rw [this]; exact hc
    obtain ⟨v', w', hr, h2, h3, h4⟩ := run_append_own (P := P) w lo t ty e i0 z 1 bytes h.und hi hz0 hz1 hz2 (by rw [h.one]; rfl) (by decide) v us.length us hown ad news.length c news (by simp) hnews h1 hm hb hlo
    refine ⟨v', w', hr, ?_, h3, ?_⟩
    · unfold Own; rw [List.length_append]; exact h2
    · rw [h4]
      constructor
      · rintro ⟨x, y⟩; exact ⟨x, List.eq_nil_of_length_eq_zero y⟩
      · rintro ⟨x, y⟩; exact ⟨x, by simp [y]⟩
  | none =>
    have hn : news = [] := by
      cases news with
      | nil => rfl
      | cons u r => obtain ⟨b, o, he, _⟩ := hs 0 u (by simp); cases he
    subst hn
    refine ⟨v, w, ?_, by simpa using hown, ⟨rfl, rfl, rfl, Nat.le_refl _, fun _ _ _ => rfl⟩, by simp⟩
    obtain ⟨a, c', rfl, hc, _, _⟩ := hown.shape
    cases a <;> simp [Builtin.append_, run_underlying h.und, sizeOf, typeInfo, hi, Builtin.lenOf, Builtin.firstCells, hc, storeCells]

/-- append(s, x...). -/
theorem o_append {t e : TypeId} {z : Value} {bytes : Nat} [h : SliceTy P t e z bytes] {lo : Nat} {s x : Operand} {v vx : Value} {us news : List Value} (hs : ev l s = some v) (hx : ev l x = some vx) (hown : Own lo e w v us) (hsrc : Src w vx news) (h1 : ∀ u ∈ news, u.oneCell' = true)
    (hm : us.length + news.length ≤ maxLen) (hb : (us.length + news.length) * bytes ≤ 140737488355328) (hlo : lo ≤ w.heap.size)
    (k : ∀ v' w', Own lo e w' v' (us ++ news) → w.grownBy w' v.ownBlock → Below lo w w' → (v' = .slice none 0 0 ↔ v = .slice none 0 0 ∧ news = []) → K ((d, v') :: l) w')
    (hg : wantedL ops l g = some true := by rfl) (hd : Nat.blt d N = true := by rfl) : OpW P N ops Q ⟨some d, .call { callee := .builtin .append, args := #[s, x], argTypes := #[t, t] }, ty, pos, af, g⟩ l w K := by
  obtain ⟨v', w', hr, h2, h3, h4⟩ := run_append (ty := ty) h hown hsrc h1 hm hb hlo
  refine OpW.val (w' := w') (v := v') (fun fr ha => ?_) (k v' w' h2 h3 (grown_below h3 hlo fun k hk => (hown.block k hk).1) h4) hg hd
  simp [execOp, resolve, invoke, builtin, ha.ev hs, ha.ev hx, hr]

/-- append(s, x): the two operations of it. -/
theorem o_append1 {t e : TypeId} {z : Value} {bytes : Nat} [h : SliceTy P t e z bytes] {lo d1 d2 : Nat} {s x y : Operand} {v u : Value} {us : List Value} {rest : List Oper} {ty1 ty2 : TypeId} {pos1 pos2 : String} {af1 af2 : Array Edge}
    (hs : ∀ u', ev ((d1, u') :: l) s = some v) (hx : ev l x = some u) (hown : Own lo e w v us) (h1 : u.oneCell' = true)
    (hm : us.length + 1 ≤ maxLen) (hb : (us.length + 1) * bytes ≤ 140737488355328) (hlo : lo ≤ w.heap.size)
    (k : ∀ p v' w', Own lo e w' v' (us ++ [u]) → Below lo w w' → (∀ k, k < w.heap.size → v.ownBlock ≠ some k → w'.heap[k]? = w.heap[k]?) → w.heap.size < w'.heap.size → v' ≠ .slice none 0 0 → WL P N ops Q rest ((d2, v') :: (d1, p) :: l) w') (hy : y = .tmp d1 := by rfl)
    (hd1 : Nat.blt d1 N = true := by rfl) (hd2 : Nat.blt d2 N = true := by rfl) :
    WL P N ops Q (⟨some d1, .buildSlice t 1 #[(0, x)], ty1, pos1, af1, none⟩ :: ⟨some d2, .call { callee := .builtin .append, args := #[s, y], argTypes := #[t, t] }, ty2, pos2, af2, none⟩ :: rest) l w := by
  subst hy
  refine WL.step (o_lit (us := [u]) (by rfl) (by simp [evs, hx]) rfl (by decide) (by simpa using h1) ?_ rfl hd1)
  intro v1 w1 hown1 hb1 hz1 hv1
  have hown' : Own lo e w1 v us := hown.below hb1 (Nat.le_refl _)
  refine WL.step (o_append (hs v1) (look_cons_self _ _ _) hown' hown1.src (by simpa using h1) (by simpa using hm) (by simpa using hb) (by omega) ?_ rfl hd2)
  intro v' w' ho hg hbl hnil
  refine k v1 v' w' ho ((Below.mono hb1 (by omega)).trans hbl) (fun k hk hne => ?_) (by have := hg.size; omega) (fun hc => ?_)
  · rw [hg.block k (by omega) (fun e => hne e.symm), hb1.block k hk]
  · have := hnil.1 hc
    simp at this
end

/-! ### A call -/

/-- The frame in which a function begins. -/
def argFr (i : Nat) : List Value → Fr
  | [] => []
  | v :: vs => (i, v) :: argFr (i + 1) vs

theorem look_argFr : ∀ (vs : List Value) (i t : Nat) (v : Value), look (argFr i vs) t = some v → i ≤ t ∧ vs[t - i]? = some v
  | [], _, _, _, h => by cases h
  | u :: vs, i, t, v, h => by
    by_cases e : t = i
    · subst e
      have h' := look_cons_self t u (argFr (t + 1) vs)
      rw [argFr, h'] at h
      simp at h
      simp [h]
    · rw [argFr, look_cons_ne _ _ e] at h
      obtain ⟨h1, h2⟩ := look_argFr vs (i + 1) t v h
      refine ⟨by omega, ?_⟩
      rw [show t - i = (t - (i + 1)) + 1 from by omega]
      simpa using h2

/-- What the function's result variables hold. -/
def RetVal (P : Program) (fn : Func) (l : Fr) (w : World) (v : Value) : Prop := ∀ a, Rep fn.ntmps a l → (results fn a.tmps).run P w = .ok v w

/-- The call returns; Phi says what, and what the world is then. -/
def Does (P : Program) (f : FuncId) (vs : List Value) (w : World) (Phi : Value → World → Prop) : Prop := Calls P f vs.toArray w fun e w' => ∃ v, e = .returned v ∧ Phi v w'

theorem Does.mono {P : Program} {f : FuncId} {vs : List Value} {w : World} {Phi Psi : Value → World → Prop} (h : Does P f vs w Phi) (hq : ∀ v w', Phi v w' → Psi v w') : Does P f vs w Psi :=
  Calls.mono h fun _ w' ⟨v, he, hv⟩ => ⟨v, he, hq v w' hv⟩

def retPost (P : Program) (fn : Func) (Phi : Value → World → Prop) : Exit → Fr → World → Prop
  | .normal, l, w | .ret, l, w => ∃ v, RetVal P fn l w v ∧ Phi v w
  | _, _, _ => False

theorem Does.enter {P : Program} {f : FuncId} {fn : Func} {c : Code} {vs : List Value} {w : World} {Phi : Value → World → Prop} {N : Nat}
    (hf : P.funcs[f]? = some fn) (hN : fn.ntmps = N) (hb : fn.body = some c) (hn : Nat.ble vs.length N = true)
    (h : WP P N c (retPost P fn Phi) (argFr 0 vs) w) : Does P f vs w Phi := by
  subst hN
  have hn' : vs.length ≤ fn.ntmps := Nat.ble_eq.mp hn
  refine calls_of_wp hf hb (wp_mono (h _ ⟨rfl, by simp; omega, fun t v hv => ?_⟩) ?_)
  · obtain ⟨_, h2⟩ := look_argFr vs 0 t v hv
    simp only [Nat.sub_zero] at h2
    have hlt : t < vs.length := (List.getElem?_eq_some_iff.1 h2).1
    simp only [Array.getD_eq_getD_getElem?, Array.getElem?_append, List.size_toArray, hlt, if_true, List.getElem?_toArray, h2, Option.getD_some]
  · intro e a w' he
    cases e with
    | normal => obtain ⟨l, hr, v, hv, hR⟩ := he; exact ⟨hr.defers, v, hv a hr, v, rfl, hR⟩
    | ret => obtain ⟨l, hr, v, hv, hR⟩ := he; exact ⟨hr.defers, v, hv a hr, v, rfl, hR⟩
    | exit id => obtain ⟨l, hr, hq⟩ := he; exact hq.elim
    | goto n => exact he.elim
    | panic c => exact he.elim
    | outgrown => exact he.elim

section
variable {P : Program} {N : Nat} {Q : Exit → Fr → World → Prop} {l : Fr} {w : World} {ops : Array Oper} {K : Fr → World → Prop}
variable {d : Nat} {ty : TypeId} {pos : String} {af : Array Edge} {g : Option (Nat × Bool)}

theorem o_call {f : FuncId} [FuncTy P f] {xs : List Operand} {tys : Array TypeId} {vs : List Value} {Phi : Value → World → Prop}
    (hc : Does P f vs w Phi) (k : ∀ v w', Phi v w' → K ((d, v) :: l) w') (hx : evs l xs = some vs := by rfl)
    (hg : wantedL ops l g = some true := by rfl) (hd : Nat.blt d N = true := by rfl) :
    OpW P N ops Q ⟨some d, .call { callee := .value (.func f), args := xs.toArray, argTypes := tys }, ty, pos, af, g⟩ l w K :=
  OpW.call (fst := []) (cap := []) (f := f) rfl hx (by simpa using Calls.mono hc fun _ w' ⟨v, he, hv⟩ => ⟨v, he, k v w' hv⟩) hg hd

/-- A call of a function value. -/
theorem o_callV {f : FuncId} [FuncTy P f] {x : Operand} {xs : List Operand} {tys : Array TypeId} {vs fst cap : List Value} {Phi : Value → World → Prop}
    (hf : ev l x = some (.func (.func f) fst.toArray cap.toArray)) (hc : Does P f (fst ++ vs ++ cap) w Phi) (k : ∀ v w', Phi v w' → K ((d, v) :: l) w') (hx : evs l xs = some vs := by rfl)
    (hg : wantedL ops l g = some true := by rfl) (hd : Nat.blt d N = true := by rfl) :
    OpW P N ops Q ⟨some d, .call { callee := .value x, args := xs.toArray, argTypes := tys }, ty, pos, af, g⟩ l w K :=
  OpW.call (f := f) hf hx (Calls.mono hc fun _ w' ⟨v, he, hv⟩ => ⟨v, he, k v w' hv⟩) hg hd

theorem WL.call {f : FuncId} [FuncTy P f] {xs : List Operand} {tys : Array TypeId} {vs : List Value} {Phi : Value → World → Prop} {rest : List Oper}
    (hc : Does P f vs w Phi) (k : ∀ v w', Phi v w' → WL P N ops Q rest ((d, v) :: l) w') (hx : evs l xs = some vs := by rfl)
    (hg : wantedL ops l g = some true := by rfl) (hd : Nat.blt d N = true := by rfl) :
    WL P N ops Q (⟨some d, .call { callee := .value (.func f), args := xs.toArray, argTypes := tys }, ty, pos, af, g⟩ :: rest) l w :=
  WL.step (o_call hc k hx hg hd)
end

section
variable {P : Program} {fn : Func} {l : Fr} {w : World}
theorem ret0 (h : fn.results = #[]) : RetVal P fn l w (.tuple #[]) := fun a _ => by simp [results, h]
theorem ret1 {t : Nat} {v : Value} (h : fn.results = #[.tmp t]) (hv : look l t = some v) : RetVal P fn l w v := fun a ha => by
  rw [results_tmp h, ha.vals t v hv]
theorem ret2 {t u : Nat} {v v' : Value} (h : fn.results = #[.tmp t, .tmp u]) (hv : look l t = some v) (hv' : look l u = some v') : RetVal P fn l w (.tuple #[v, v']) := fun a ha => by
  rw [results_tmp2 h, ha.vals t v hv, ha.vals u v' hv']
theorem ret3 {t u s : Nat} {v v' v'' : Value} (h : fn.results = #[.tmp t, .tmp u, .tmp s]) (hv : look l t = some v) (hv' : look l u = some v') (hv'' : look l s = some v'') : RetVal P fn l w (.tuple #[v, v', v'']) := fun a ha => by
  rw [results_tmp3 h, ha.vals t v hv, ha.vals u v' hv', ha.vals s v'' hv'']
/-- A result that is a struct. -/
theorem retS {t b n : Nat} {ty tt : TypeId} {cs : List Value} {z : Array Value} [hs : StructTy P ty n z] (h : fn.results = #[.cell t ty]) (hv : look l t = some (.pointer (some ⟨b, 0, none⟩))) (hb : Blk w b cs tt) (hn : cs.length = n) : RetVal P fn l w (.agg cs.toArray) := fun a ha => by
  obtain ⟨fs, hu⟩ := hs.und
  exact results_cell_row h a.tmps w b tt cs.toArray (0, 0) _ (ha.vals t _ hv) hb hu rfl (by have := hs.size; cases hi : P.info? ty <;> simp_all)
/-- A struct and a value of one cell. -/
theorem retS1 {t u b n : Nat} {ty tt : TypeId} {cs : List Value} {v : Value} {z : Array Value} [hs : StructTy P ty n z] (h : fn.results = #[.cell t ty, .tmp u]) (hv : look l t = some (.pointer (some ⟨b, 0, none⟩))) (hb : Blk w b cs tt) (hn : cs.length = n) (hv' : look l u = some v) :
    RetVal P fn l w (.tuple #[.agg cs.toArray, v]) := fun a ha => by
  obtain ⟨fs, hu⟩ := hs.und
  have hr := run_loadVar_row (P := P) w b tt ty cs.toArray (0, 0) _ hb hu rfl (by have := hs.size; cases hi : P.info? ty <;> simp_all)
  have h1 := ha.vals t _ hv
  have h2 := ha.vals u _ hv'
  simp only [Array.getD_eq_getD_getElem?] at h1 h2
  simp [results, h, h1, h2, asAddr, hr]
end
end Go.Fw
/- Regions whose order Go leaves open: one walk, in a schedule that a check finds good for every order. -/
namespace Go.Fw
open Go Go.RowKit

/-- The operation behind which S need not hold any more: the schedule's last one, if its number is written as 1000 + number. -/
def schedLast (ops : Array Oper) (s : List (Nat × Bool)) : Nat :=
  match s.getLast? with
  | some (i, false) => if 1000 ≤ i then i - 1000 else ops.size
  | _ => ops.size
/-- It waits for every other one, by edges of its own. -/
def lastOk (ops : Array Oper) (k : Nat) : Bool :=
  match ops[k]? with
  | none => true
  | some o => (List.range ops.size).all fun i => i == k || o.after.any fun e => Region.binds .any e && e.on == i

/-- A schedule: each operation's number; 'true': it only looks, and may be taken when it is ready; 'false': it is the only one that is ready. -/
def schedOk (ops : Array Oper) (k : Nat) : List (Nat × Bool) → Array Bool → Bool
  | [], listed => (Region.ready .any ops listed).isEmpty
  | (i, true) :: s, listed => (Region.ready .any ops listed).contains i && Region.free .any ops listed i && decide (i < ops.size ∧ i ≠ k) && schedOk ops k s (listed.setIfInBounds i true)
  | (i, false) :: s, listed =>
    if 1000 ≤ i then decide (Region.ready .any ops listed = [i - 1000]) && decide (i - 1000 = k) && schedOk ops k s (listed.setIfInBounds (i - 1000) true)
    else decide (Region.ready .any ops listed = [i]) && schedOk ops k s (listed.setIfInBounds i true)

def schedGood (ops : Array Oper) (s : List (Nat × Bool)) : Bool := Region.noSelect ops && decide (s.length = ops.size) && lastOk ops (schedLast ops s) && schedOk ops (schedLast ops s) s (Array.replicate ops.size false)

/-- Whatever order is picked from here on; S holds behind every operation but k. -/
def wpAnyK (P : Program) (ops : Array Oper) (Q : Exit → Act → World → Prop) (S : World → Prop) (k : Nat) : Nat → Array Bool → Act → World → Prop
  | 0, listed, a, w => Region.ready .any ops listed = [] ∧ Q .normal a w
  | fuel + 1, listed, a, w => (Region.ready .any ops listed = [] → Q .normal a w) ∧ ∀ i ∈ Region.ready .any ops listed, wpOp P ops Q i (fun a' w' => (i ≠ k → S w') ∧ wpAnyK P ops Q S k fuel (listed.setIfInBounds i true) a' w') a w

section
variable {P : Program} {ops : Array Oper} {Q : Exit → Act → World → Prop} {S : World → Prop} {k : Nat}
theorem wpAny_of_K : ∀ (fuel : Nat) (listed : Array Bool) (a : Act) (w : World), wpAnyK P ops Q S k fuel listed a w → wpAny P .any ops Q fuel listed a w
  | 0, _, _, _, h => h
  | fuel + 1, _, _, _, h => ⟨h.1, fun i hi => wpOp_mono (fun a' w' h' => wpAny_of_K fuel _ a' w' h'.2) (h.2 i hi)⟩

theorem listed_of_ready {i : Nat} {listed : Array Bool} (h : i ∈ Region.ready .any ops listed) : listed[i]?.getD false ≠ true := fun h' => by
  have h0 := (mem_ready.1 h).1
  rw [Array.getD_eq_getD_getElem?] at h0
  cases hq : listed[i]? with
  | none => rw [hq] at h'; cases h'
  | some b => rw [hq] at h0 h'; simp at h0 h'; rw [h0] at h'; cases h'

theorem wpAnyK_first {i : Nat} {oi : Oper} {v : Value} (hi : ops[i]? = some oi) (hik : i ≠ k) (hk : ∀ ok, ops[k]? = some ok → ∃ e ∈ ok.after, Region.binds .any e = true ∧ e.on = i)
    (hsel : ∀ (j : Nat) (o : Oper) cs b, ops[j]? = some o → o.op ≠ .select cs b) (hQ : ∀ c a w, Q (.panic c) (a.put oi.dst v) w → Q (.panic c) a w) :
    ∀ (fuel : Nat) (listed : Array Bool) (a : Act) (w : World),
      (∀ j oj, ops[j]? = some oj → j ≠ i → listed.getD j true = false → (∀ e ∈ oj.after, Region.binds .any e = true → e.on ≠ i) → oi.apart ops oj = true) →
      i ∈ Region.ready .any ops listed → YieldsIf P ops S oi v a → S w →
      wpAnyK P ops Q S k fuel (listed.setIfInBounds i true) (a.put oi.dst v) w → wpAnyK P ops Q S k (fuel + 1) listed a w
  | 0, listed, a, w, _, hr, hy, hS, H => by
    refine ⟨fun h => (by rw [h] at hr; cases hr), fun j hj => ?_⟩
    by_cases e : j = i
    · subst e; exact hy.wpOp hi hS ⟨fun _ => hS, H⟩
    · have := ready_mono hj e
      rw [H.1] at this
      cases this
  | fuel + 1, listed, a, w, hf, hr, hy, hS, H => by
    refine ⟨fun h => (by rw [h] at hr; cases hr), fun j hj => ?_⟩
    by_cases e : j = i
    · subst e; exact hy.wpOp hi hS ⟨fun _ => hS, H⟩
    obtain ⟨hju, oj, hoj, hall⟩ := mem_ready.1 hj
    have hno : ∀ e ∈ oj.after, Region.binds .any e = true → e.on ≠ i := fun ed he hb heq => listed_of_ready hr (by have := hall ed he hb; rw [heq] at this; simpa using this)
    have hjk : j ≠ k := fun e2 => by
      subst e2
      obtain ⟨ed, he, hb, hon⟩ := hk oj hoj
      exact hno ed he hb hon
    have h2 := wpOp_putIf hoj (hf j oj hoj e hju hno) (fun cs b => hsel i oi cs b hi) (fun cs b => hsel j oj cs b hoj) hQ hy (H.2 j (ready_mono hj e))
    refine wpOp_mono (fun a' w' h3 => ⟨h3.2.1, wpAnyK_first hi hik hk hsel hQ fuel (listed.setIfInBounds j true) a' w' (fun m om hm hmi hun hn => hf m om hm hmi ?_ hn) (ready_mono hr (Ne.symm e)) h3.1 (h3.2.1 hjk) ?_⟩) h2
    · by_cases ejm : j = m
      · subst ejm; exact hju
      · rw [getD_set_ne true ejm] at hun; exact hun
    · rw [Array.setIfInBounds_comm _ _ e]
      exact h3.2.2
end

def wpSched (P : Program) (ops : Array Oper) (Q : Exit → Act → World → Prop) (S : World → Prop) : List (Nat × Bool) → Act → World → Prop
  | [], a, w => Q .normal a w
  | (i, true) :: s, a, w => ∃ o v, ops[i]? = some o ∧ YieldsIf P ops S o v a ∧ S w ∧ wpSched P ops Q S s (a.put o.dst v) w
  | (i, false) :: s, a, w => if 1000 ≤ i then wpOp P ops Q (i - 1000) (fun a' w' => wpSched P ops Q S s a' w') a w else wpOp P ops Q i (fun a' w' => S w' ∧ wpSched P ops Q S s a' w') a w

theorem wpAnyK_of_sched {P : Program} {ops : Array Oper} {Q : Exit → Act → World → Prop} {S : World → Prop} {k : Nat} (hQ : ∀ c a w, ¬ Q (.panic c) a w) (hs : Region.noSelect ops = true) (hl : lastOk ops k = true) :
    ∀ (s : List (Nat × Bool)) (listed : Array Bool) (a : Act) (w : World), schedOk ops k s listed = true → wpSched P ops Q S s a w → wpAnyK P ops Q S k s.length listed a w
  | [], listed, a, w, h, hw => ⟨by simpa [schedOk] using h, hw⟩
  | (i, true) :: s, listed, a, w, h, hw => by
    simp only [schedOk, Bool.and_eq_true, decide_eq_true_eq] at h
    obtain ⟨o, v, hi, hy, hS, hk⟩ := hw
    refine wpAnyK_first hi h.1.2.2 (fun ok hok => ?_) (Region.noSelect_spec hs) (fun c a w hq => absurd hq (hQ c _ w)) s.length listed a w (Region.free_spec hi h.1.1.2) (by simpa using h.1.1.1) hy hS (wpAnyK_of_sched hQ hs hl s _ _ _ h.2 hk)
    unfold lastOk at hl
    rw [hok] at hl
    have := List.all_eq_true.1 hl i (List.mem_range.2 h.1.2.1)
    simp only [Bool.or_eq_true, beq_iff_eq] at this
    rcases this with h' | h'
    · exact absurd h' h.1.2.2
    · simp only [Array.any_eq_true', Bool.and_eq_true, beq_iff_eq] at h'
      obtain ⟨e, he, hb, hon⟩ := h'
      exact ⟨e, he, hb, hon⟩
  | (i, false) :: s, listed, a, w, h, hw => by
    unfold schedOk at h
    unfold wpSched at hw
    by_cases hi : 1000 ≤ i
    · rw [if_pos hi] at h hw
      simp only [Bool.and_eq_true, decide_eq_true_eq] at h
      generalize i - 1000 = m at h hw
      refine ⟨fun h0 => (by rw [h.1.1] at h0; cases h0), fun j hj => ?_⟩
      rw [h.1.1] at hj
      simp only [List.mem_singleton] at hj
      subst hj
      exact wpOp_mono (fun a' w' hk => ⟨fun hne => absurd h.1.2 hne, wpAnyK_of_sched hQ hs hl s _ _ _ h.2 hk⟩) hw
    · rw [if_neg hi] at h hw
      simp only [Bool.and_eq_true, decide_eq_true_eq] at h
      refine ⟨fun h0 => (by rw [h.1] at h0; cases h0), fun j hj => ?_⟩
      rw [h.1] at hj
      simp only [List.mem_singleton] at hj
      subst hj
      exact wpOp_mono (fun a' w' hk => ⟨fun _ => hk.1, wpAnyK_of_sched hQ hs hl s _ _ _ h.2 hk.2⟩) hw

def WS (P : Program) (N : Nat) (ops : Array Oper) (Q : Exit → Fr → World → Prop) (S : World → Prop) (s : List (Nat × Bool)) (l : Fr) (w : World) : Prop :=
  ∀ a, Rep N a l → wpSched P ops (lft N Q) S s a w

section
variable {P : Program} {N : Nat} {Q : Exit → Fr → World → Prop} {S : World → Prop} {l : Fr} {w : World} {ops : Array Oper} {s : List (Nat × Bool)}

/-- The region, by a schedule. S is what every operation keeps, and what those that only look lean on. -/
theorem WP.drawn {id : Nat} {ops : List Oper} (S : World → Prop) (s : List (Nat × Bool)) (hg : schedGood ops.toArray s = true) (hm : P.follows .mixedOrders = true)
    (h : ∀ w1, Still w w1 → WS P N ops.toArray Q S s l w1) : WP P N (.region id ops.toArray true) Q l w := fun a ha => by
  simp only [schedGood, Bool.and_eq_true, decide_eq_true_eq] at hg
  refine wp_region_any hm (wpAny_of_K (S := S) (k := schedLast ops.toArray s) _ _ _ _ ?_)
  have := wpAnyK_of_sched (P := P) (Q := lft N Q) (S := S) (fun c a w h => h) hg.1.1.1 hg.1.2 s _ a _ hg.2 (h w.drew (Still.drew w) a ha)
  rw [hg.1.1.2] at this
  exact this

theorem WS.nil (h : Q .normal l w) : WS P N ops Q S [] l w := fun _ ha => ⟨l, ha, h⟩

/-- An operation that only looks: its value, in every world that S lets. -/
def QW (P : Program) (N : Nat) (ops : Array Oper) (S : World → Prop) (o : Oper) (l : Fr) (d : Nat) (v : Value) : Prop :=
  o.dst = some d ∧ d < N ∧ ∀ a, Rep N a l → YieldsIf P ops S o v a

theorem WS.q {i d : Nat} {o : Oper} {v : Value} (hi : ops[i]? = some o) (hq : QW P N ops S o l d v) (hS : S w) (k : WS P N ops Q S s ((d, v) :: l) w) : WS P N ops Q S ((i, true) :: s) l w := fun a ha => by
  refine ⟨o, v, hi, hq.2.2 a ha, hS, ?_⟩
  rw [hq.1]
  exact k _ (ha.put hq.2.1 v)

theorem WS.op {i : Nat} {o : Oper} (hi : ops[i]? = some o) (h : OpW P N ops Q o l w (fun l' w' => S w' ∧ WS P N ops Q S s l' w')) (hlt : Nat.blt i 1000 = true := by rfl) : WS P N ops Q S ((i, false) :: s) l w := fun a ha => by
  show (if 1000 ≤ i then _ else wpOp P ops (lft N Q) i (fun a' w' => S w' ∧ wpSched P ops (lft N Q) S s a' w') a w)
  have hlt' : i < 1000 := by simpa using hlt
  rw [if_neg (by omega)]
  unfold wpOp
  rw [hi]
  exact h a ha _ (fun a' l' w' ha' hk => ⟨hk.1, hk.2 a' ha'⟩)

/-- The last operation: behind it S is not asked for. -/
theorem WS.last {i : Nat} {o : Oper} (hi : ops[i - 1000]? = some o) (h : OpW P N ops Q o l w (fun l' w' => WS P N ops Q S s l' w')) (hge : Nat.ble 1000 i = true := by rfl) : WS P N ops Q S ((i, false) :: s) l w := fun a ha => by
  show (if 1000 ≤ i then wpOp P ops (lft N Q) (i - 1000) (fun a' w' => wpSched P ops (lft N Q) S s a' w') a w else _)
  rw [if_pos (by simpa using hge)]
  unfold wpOp
  rw [hi]
  exact h a ha _ (fun a' l' w' ha' hk => hk a' ha')

/-- A slot that holds a truth value: both cases. -/
theorem WS.split {t : Nat} {b : Bool} (hb : look l t = some (.bool b)) (ht : b = true → WS P N ops Q S s ((t, .bool true) :: l) w) (hf : b = false → WS P N ops Q S s ((t, .bool false) :: l) w) : WS P N ops Q S s l w := fun a ha => by
  cases b
  · exact hf rfl a (ha.lit hb)
  · exact ht rfl a (ha.lit hb)
theorem WS.splitD {t : Nat} {p : Prop} [Decidable p] (hb : look l t = some (.bool (decide p))) (ht : p → WS P N ops Q S s ((t, .bool true) :: l) w) (hf : ¬ p → WS P N ops Q S s ((t, .bool false) :: l) w) : WS P N ops Q S s l w :=
  WS.split hb (fun h => ht (of_decide_eq_true h)) (fun h => hf (of_decide_eq_false h))
theorem WS.splitN {t : Nat} {b : Bool} (hb : look l t = some (.bool (!b))) (ht : b = false → WS P N ops Q S s ((t, .bool true) :: l) w) (hf : b = true → WS P N ops Q S s ((t, .bool false) :: l) w) : WS P N ops Q S s l w :=
  WS.split hb (fun h => ht (by simpa using h)) (fun h => hf (by simpa using h))

section
variable {d : Nat} {op : Op} {ty : TypeId} {pos : String} {af : Array Edge} {g : Option (Nat × Bool)}

theorem QW.mk {v : Value} (hr : ∀ a, Rep N a l → ∀ w, S w → (execOp a.eval ⟨some d, op, ty, pos, af, g⟩).run P w = .ok (.value v) w)
    (hg : wantedL ops l g = some true) (hd : Nat.blt d N = true) : QW P N ops S ⟨some d, op, ty, pos, af, g⟩ l d v :=
  ⟨rfl, Nat.blt_eq.mp hd, fun a ha => .inl ⟨wantedL_sound (o := ⟨some d, op, ty, pos, af, g⟩) ha hg, fun w hS => hr a ha w hS⟩⟩

theorem q_pass (hg : wantedL ops l g = some false) (hd : Nat.blt d N = true := by rfl) : QW P N ops S ⟨some d, op, ty, pos, af, g⟩ l d undef :=
  ⟨rfl, Nat.blt_eq.mp hd, fun _ ha => .inr ⟨wantedL_sound (o := ⟨some d, op, ty, pos, af, g⟩) ha hg, rfl⟩⟩

theorem q_s {v : Value} (h : simple l op = some v) (hg : wantedL ops l g = some true := by rfl) (hd : Nat.blt d N = true := by rfl) : QW P N ops S ⟨some d, op, ty, pos, af, g⟩ l d v :=
  QW.mk (fun a ha _ _ => run_simple h a ha) hg hd
theorem q_len {t e : TypeId} {z : Value} {bytes : Nat} [h : SliceTy P t e z bytes] {x : Operand} {a : Option Addr} {n c : Nat}
    (hx : ev l x = some (.slice a n c)) (hg : wantedL ops l g = some true := by rfl) (hd : Nat.blt d N = true := by rfl) :
    QW P N ops S ⟨some d, .call { callee := .builtin .len, args := #[x], argTypes := #[t] }, ty, pos, af, g⟩ l d (.int .i64 n) :=
  QW.mk (fun fr ha _ _ => by simp [execOp, resolve, invoke, builtin, Builtin.len_, ha.ev hx, run_underlying h.und, goInt]) hg hd
theorem q_add {x y : Operand} {t t' : TypeId} {a b : Int} (hx : ev l x = some (.int .i64 a)) (hy : ev l y = some (.int .i64 b)) (hb : InI (a + b))
    (hg : wantedL ops l g = some true := by rfl) (hd : Nat.blt d N = true := by rfl) : QW P N ops S ⟨some d, .binOp .add t x y t', ty, pos, af, g⟩ l d (.int .i64 (a + b)) :=
  QW.mk (fun fr ha _ _ => by simp [execOp, ha.ev hx, ha.ev hy, eqGuard, binOp, Op.intArith, wrap_in hb]) hg hd
theorem q_sub {x y : Operand} {t t' : TypeId} {a b : Int} (hx : ev l x = some (.int .i64 a)) (hy : ev l y = some (.int .i64 b)) (hb : InI (a - b))
    (hg : wantedL ops l g = some true := by rfl) (hd : Nat.blt d N = true := by rfl) : QW P N ops S ⟨some d, .binOp .sub t x y t', ty, pos, af, g⟩ l d (.int .i64 (a - b)) :=
  QW.mk (fun fr ha _ _ => by simp [execOp, ha.ev hx, ha.ev hy, eqGuard, binOp, Op.intArith, wrap_in hb]) hg hd
theorem q_mul {x y : Operand} {t t' : TypeId} {a b : Int} (hx : ev l x = some (.int .i64 a)) (hy : ev l y = some (.int .i64 b)) (hb : InI (a * b))
    (hg : wantedL ops l g = some true := by rfl) (hd : Nat.blt d N = true := by rfl) : QW P N ops S ⟨some d, .binOp .mul t x y t', ty, pos, af, g⟩ l d (.int .i64 (a * b)) :=
  QW.mk (fun fr ha _ _ => by simp [execOp, ha.ev hx, ha.ev hy, eqGuard, binOp, Op.intArith, wrap_in hb]) hg hd
theorem q_neg {x : Operand} {t : TypeId} {a : Int} (hx : ev l x = some (.int .i64 a)) (hb : InI (-a))
    (hg : wantedL ops l g = some true := by rfl) (hd : Nat.blt d N = true := by rfl) : QW P N ops S ⟨some d, .unOp .neg t x, ty, pos, af, g⟩ l d (.int .i64 (-a)) :=
  QW.mk (fun fr ha _ _ => by simp [execOp, ha.ev hx, Op.unary, Op.intArith, wrap_in hb]) hg hd
theorem q_conv {t u : TypeId} [h1 : IntTy P t .i64] [h2 : IntTy P u .i64] {x : Operand} {a : Int} (hx : ev l x = some (.int .i64 a)) (hb : InI a)
    (hg : wantedL ops l g = some true := by rfl) (hd : Nat.blt d N = true := by rfl) : QW P N ops S ⟨some d, .convert t u x, ty, pos, af, g⟩ l d (.int .i64 a) :=
  QW.mk (fun fr ha _ _ => by simp [execOp, ha.ev hx, convert, run_underlying h1.und, run_underlying h2.und, Conv.intToInt, wrap_in hb]) hg hd
theorem q_load {t : TypeId} [CellTy P t] {x : Operand} {a : Addr} {v : Value} (hx : ev l x = some (.pointer (some a))) (hc : ∀ w, S w → w.cell? a = some v)
    (hg : wantedL ops l g = some true := by rfl) (hd : Nat.blt d N = true := by rfl) : QW P N ops S ⟨some d, .load t x, ty, pos, af, g⟩ l d v :=
  QW.mk (fun fr ha w hS => by simp [execOp, ha.ev hx, run_loadAt_cell (hc w hS)]) hg hd
theorem q_field {st : TypeId} {f off : Nat} [h : FieldTy P st f off] {x : Operand} {a : Addr} (hx : ev l x = some (.pointer (some a)))
    (hg : wantedL ops l g = some true := by rfl) (hd : Nat.blt d N = true := by rfl) : QW P N ops S ⟨some d, .fieldAddr st x f, ty, pos, af, g⟩ l d (.pointer (some (a.add off))) :=
  QW.mk (fun fr ha _ _ => by simp [execOp, ha.ev hx, h.at_]) hg hd
theorem q_sliceH {t e : TypeId} {z : Value} {bytes : Nat} [SliceTy P t e z bytes] {x y : Operand} {a : Option Addr} {n c i : Nat} {kk : IntKind} (hx : ev l x = some (.slice a n c)) (hy : ev l y = some (.int kk (i : Nat))) (hi : i ≤ c)
    (hg : wantedL ops l g = some true := by rfl) (hd : Nat.blt d N = true := by rfl) : QW P N ops S ⟨some d, .slice t x none (some y) none, ty, pos, af, g⟩ l d (.slice a i c) :=
  QW.mk (fun fr ha _ _ => by simp [execOp, ha.ev hx, ha.ev hy, run_sliceH (P := P) (t := t) hi]) hg hd
theorem q_ix {t e : TypeId} {z : Value} {bytes : Nat} [SliceTy P t e z bytes] {x y : Operand} {b o n c : Nat} {kk : IntKind} {i : Int} (hx : ev l x = some (.slice (some ⟨b, o, none⟩) n c)) (hi : ev l y = some (.int kk i))
    (h0 : 0 ≤ i) (h1 : i < n) (hg : wantedL ops l g = some true := by rfl) (hd : Nat.blt d N = true := by rfl) : QW P N ops S ⟨some d, .indexAddr t x y, ty, pos, af, g⟩ l d (.pointer (some ⟨b, o + i.toNat, none⟩)) :=
  QW.mk (fun fr ha _ _ => by simp [execOp, ha.ev hx, ha.ev hi, run_indexAt_of h0 h1]) hg hd
end
end

section
variable {P : Program} {N : Nat} {Q : Exit → Fr → World → Prop} {S : World → Prop} {l : Fr} {w : World} {ops : Array Oper} {s : List (Nat × Bool)}
variable {d : Nat} {ty : TypeId} {pos : String} {af : Array Edge} {g : Option (Nat × Bool)}
theorem WS.call {i : Nat} {f : FuncId} [FuncTy P f] {xs : List Operand} {tys : Array TypeId} {vs : List Value} {Phi : Value → World → Prop}
    (hi : ops[i]? = some ⟨some d, .call { callee := .value (.func f), args := xs.toArray, argTypes := tys }, ty, pos, af, g⟩)
    (hc : Does P f vs w Phi) (k : ∀ v w', Phi v w' → S w' ∧ WS P N ops Q S s ((d, v) :: l) w') (hx : evs l xs = some vs := by rfl)
    (hg : wantedL ops l g = some true := by rfl) (hd : Nat.blt d N = true := by rfl) (hlt : Nat.blt i 1000 = true := by rfl) : WS P N ops Q S ((i, false) :: s) l w :=
  WS.op hi (o_call hc k hx hg hd) hlt
end

/-! ### Elements of slices that are read -/
section
variable {P : Program} {N : Nat} {Q : Exit → Fr → World → Prop} {l : Fr} {w : World} {ops : Array Oper}
variable {α : Type} {R : Nat → Nat → World → Value → α → Prop} {lo hi : Nat} {v : Value} {xs : List α}

/-- x[i]: the place and the load. -/
theorem WL.ixload {t t2 e : TypeId} {z : Value} {bytes : Nat} [SliceTy P t e z bytes] [CellTy P t2] {x y : Operand} {kk : IntKind} {i : Int} {j : Nat} {d1 d2 : Nat} {ty1 ty2 : TypeId} {pos1 pos2 : String} {af1 af2 : Array Edge} {g1 g2 : Option (Nat × Bool)} {x2 : Operand} {rest : List Oper} {a : α}
    (hs : SL R lo hi w v xs) (ha : xs[j]? = some a)
    (k : ∀ p u, R lo hi w u a → WL P N ops Q rest ((d2, u) :: (d1, p) :: l) w) (hx : ev l x = some v := by rfl) (hy : ev l y = some (.int kk i) := by rfl) (hij : i = (j : Int) := by first | rfl | omega) (h2 : x2 = .tmp d1 := by rfl)
    (hg1 : wantedL ops l g1 = some true := by rfl) (hg2 : ∀ p, wantedL ops ((d1, .pointer (some p)) :: l) g2 = some true := by intro _; rfl) (hd1 : Nat.blt d1 N = true := by rfl) (hd2 : Nat.blt d2 N = true := by rfl) :
    WL P N ops Q (⟨some d1, .indexAddr t x y, ty1, pos1, af1, g1⟩ :: ⟨some d2, .load t2 x2, ty2, pos2, af2, g2⟩ :: rest) l w := by
  subst h2
  obtain ⟨_, ad, c, rfl, hl, hn, h⟩ := hs
  obtain ⟨b, o, u, rfl, _, _, hc, hr⟩ := h _ a ha
  have hlt := (List.getElem?_eq_some_iff.1 ha).1
  subst hij
  refine WL.step (o_ix hx hy (by omega) (by omega) ?_ hg1 hd1)
  refine WL.step (o_load (look_cons_self _ _ _) (by simpa using hc) ?_ (hg2 _) hd2)
  exact k _ u hr

theorem same_heap {lo hi : Nat} {w w' : World} (h : w'.heap = w.heap) : Same lo hi w w' := fun _ _ _ => by rw [h]
theorem same_below {B lo hi : Nat} {w0 w w' : World} (h : Below B w0 w) (h' : Below B w0 w') (hB : hi ≤ B) : Same lo hi w w' := fun k _ h2 => (h'.block k (by omega)).trans (h.block k (by omega)).symm

/-- x[i] in a drawn region. -/
theorem WS.ixload {S : World → Prop} {s : List (Nat × Bool)} {m m' : Nat} {t t2 e : TypeId} {z : Value} {bytes : Nat} [SliceTy P t e z bytes] [CellTy P t2] {x y : Operand} {kk : IntKind} {i : Int} {j : Nat} {d1 d2 : Nat} {ty1 ty2 : TypeId} {pos1 pos2 : String} {af1 af2 : Array Edge} {g1 g2 : Option (Nat × Bool)} {x2 : Operand} {a : α}
    (hi1 : ops[m]? = some ⟨some d1, .indexAddr t x y, ty1, pos1, af1, g1⟩) (hj1 : ops[m']? = some ⟨some d2, .load t2 x2, ty2, pos2, af2, g2⟩)
    (hs : SL R lo hi w v xs) (ha : xs[j]? = some a) (hS : ∀ w', S w' → Same lo hi w w') (hSw : S w)
    (k : ∀ p u, R lo hi w u a → WS P N ops Q S s ((d2, u) :: (d1, p) :: l) w) (hx : ev l x = some v := by rfl) (hy : ev l y = some (.int kk i) := by rfl) (hij : i = (j : Int) := by first | rfl | omega) (h2 : x2 = .tmp d1 := by rfl)
    (hg1 : wantedL ops l g1 = some true := by rfl) (hg2 : ∀ p, wantedL ops ((d1, .pointer (some p)) :: l) g2 = some true := by intro _; rfl) (hd1 : Nat.blt d1 N = true := by rfl) (hd2 : Nat.blt d2 N = true := by rfl) :
    WS P N ops Q S ((m, true) :: (m', true) :: s) l w := by
  subst h2
  obtain ⟨_, ad, c, rfl, hl, hn, h⟩ := hs
  obtain ⟨b, o, u, rfl, hb1, hb2, hc, hr⟩ := h _ a ha
  have hlt := (List.getElem?_eq_some_iff.1 ha).1
  subst hij
  refine WS.q hi1 (q_ix hx hy (by omega) (by omega) hg1 hd1) hSw ?_
  refine WS.q hj1 (q_load (look_cons_self _ _ _) (fun w' hw' => by rw [World.cell?_of_block (hS w' hw' b hb1 hb2)]; simpa using hc) (hg2 _) hd2) hSw ?_
  exact k _ u hr

theorem Own.setCell {lo : Nat} {e : TypeId} {w : World} {g n c : Nat} {us : List Value} (h : Own lo e w (.slice (some ⟨g, 0, none⟩) n c) us) (i : Nat) (u : Value) :
    Own lo e (w.setCell ⟨g, i, none⟩ u) (.slice (some ⟨g, 0, none⟩) n c) (us.set i u) := by
  obtain ⟨a, c', hv, _⟩ := h.shape
  simp only [Value.slice.injEq] at hv
  obtain ⟨_, rfl, rfl⟩ := hv
  have := (World.ownsRow.stored h i u).1
  unfold Own
  rw [List.length_set]
  exact this

/-- x[i] = u, x a slice that the call owns: the place and the store. -/
theorem WL.ixstore {t t2 e e' : TypeId} {z : Value} {bytes : Nat} [SliceTy P t e z bytes] [CellTy P t2] {x y x2 y2 : Operand} {kk : IntKind} {i : Int} {j : Nat} {d1 lo : Nat} {v u : Value} {us : List Value} {ty1 ty2 : TypeId} {pos1 pos2 : String} {af1 af2 : Array Edge} {rest : List Oper}
    (hown : Own lo e' w v us) (h1 : j < us.length)
    (k : ∀ p w1, Own lo e' w1 v (us.set j u) → Below lo w w1 → w1.heap.size = w.heap.size → (∀ k, v.ownBlock ≠ some k → w1.heap[k]? = w.heap[k]?) → WL P N ops Q rest ((d1, p) :: l) w1)
    (hx : ev l x = some v := by rfl) (hy : ev l y = some (.int kk i) := by rfl) (hij : i = (j : Int) := by first | rfl | omega) (hy2 : ∀ p, ev ((d1, p) :: l) y2 = some u := by intro _; rfl) (hu : u.oneCell' = true := by rfl) (h2 : x2 = .tmp d1 := by rfl)
    (hd1 : Nat.blt d1 N = true := by rfl) :
    WL P N ops Q (⟨some d1, .indexAddr t x y, ty1, pos1, af1, none⟩ :: ⟨none, .store t2 x2 y2, ty2, pos2, af2, none⟩ :: rest) l w := by
  subst h2
  obtain ⟨g, c, rfl, hg1, hg2, hcell, hfz, hob⟩ := hown.cell (i := j) (List.getElem?_eq_getElem h1)
  subst hij
  refine WL.step (o_ix hx hy (by omega) (by omega) ?_ rfl hd1)
  rw [Nat.zero_add, Int.toNat_natCast]
  refine WL.step (o_store (look_cons_self _ _ _) (hy2 _) hcell hfz ?_ hu rfl)
  exact k _ _ (Own.setCell hown j u) ((But.setCell w g j u).below hg1) (by simp) (fun k hk => (But.setCell w g j u).block k (fun e => hk (by rw [hob, e])))
end

end Go.Fw
/- Short names for the steps that walks take again and again. -/
namespace Go.Fw
open Go
/-- A step that only the form of the goal decides. -/
class Stp (G : Prop) (G' : outParam Prop) : Prop where
  go : G' → G
theorem X.O {G G' : Prop} [h : Stp G G'] (k : G') : G := h.go k
section
variable {P : Program} {N : Nat} {Q : Exit → Fr → World → Prop} {l : Fr} {w : World} {ops : Array Oper} {rest : List Oper} {K : Fr → World → Prop} {S : World → Prop} {s : List (Nat × Bool)}
variable {d : Nat} {op : Op} {ty : TypeId} {pos : String} {af : Array Edge} {g : Option (Nat × Bool)}
instance {x y : Code} : Stp (WP P N (.seq x y) Q l w) (WP P N x (thenE (fun l w => WP P N y Q l w) Q) l w) := ⟨WP.seq⟩
instance {id : Nat} {c : Code} : Stp (WP P N (.block id c) Q l w) (WP P N c (inBlockE id Q) l w) := ⟨WP.block⟩
instance {id : Nat} {o : List Oper} : Stp (WP P N (.region id o.toArray false) Q l w) (WL P N o.toArray Q o l w) := ⟨WP.region⟩
instance : Stp (WL P N ops Q [] l w) (Q .normal l w) := ⟨WL.nil⟩
instance : Stp (thenE K Q .normal l w) (K l w) := ⟨thenN⟩
instance : Stp (thenE K Q .ret l w) (Q .ret l w) := ⟨thenR⟩
instance {id : Nat} : Stp (thenE K Q (.exit id) l w) (Q (.exit id) l w) := ⟨thenX⟩
instance {id : Nat} : Stp (inBlockE id Q .normal l w) (Q .normal l w) := ⟨blkN⟩
instance {id : Nat} : Stp (inBlockE id Q .ret l w) (Q .ret l w) := ⟨blkR⟩
instance : Stp (WP P N .ret Q l w) (Q .ret l w) := ⟨WP.ret⟩
instance {id : Nat} : Stp (WP P N (.exit id) Q l w) (Q (.exit id) l w) := ⟨WP.exit⟩
instance : Stp (WP P N .skip Q l w) (Q .normal l w) := ⟨WP.skip⟩
instance {n : Nat} : Stp (WP P N (.label n) Q l w) (Q .normal l w) := ⟨WP.label⟩
instance : Stp (WS P N ops Q S [] l w) (Q .normal l w) := ⟨WS.nil⟩
theorem X.A {v : Value} (k : WL P N ops Q rest ((d, v) :: l) w) (h : simple l op = some v := by rfl) (hg : wantedL ops l g = some true := by rfl) (hd : Nat.blt d N = true := by rfl) : WL P N ops Q (⟨some d, op, ty, pos, af, g⟩ :: rest) l w := WL.step (o_s h k hg hd)
theorem X.B {t e : TypeId} {z : Value} {bytes : Nat} [SliceTy P t e z bytes] {x : Operand} {a : Option Addr} {n c : Nat} (k : WL P N ops Q rest ((d, .int .i64 n) :: l) w) (hx : ev l x = some (.slice a n c) := by rfl) (hg : wantedL ops l g = some true := by rfl) (hd : Nat.blt d N = true := by rfl) :
    WL P N ops Q (⟨some d, .call { callee := .builtin .len, args := #[x], argTypes := #[t] }, ty, pos, af, g⟩ :: rest) l w := WL.step (o_len hx k hg hd)
theorem X.C {x y : Operand} {t t' : TypeId} {a b : Int} (k : WL P N ops Q rest ((d, .int .i64 (a + b)) :: l) w) (hx : ev l x = some (.int .i64 a) := by rfl) (hy : ev l y = some (.int .i64 b) := by rfl) (hb : InI (a + b) := by unfold InI; omega) (hg : wantedL ops l g = some true := by rfl) (hd : Nat.blt d N = true := by rfl) :
    WL P N ops Q (⟨some d, .binOp .add t x y t', ty, pos, af, g⟩ :: rest) l w := WL.step (o_add hx hy hb k hg hd)
theorem X.D {x y : Operand} {t t' : TypeId} {a b : Int} (k : WL P N ops Q rest ((d, .int .i64 (a - b)) :: l) w) (hx : ev l x = some (.int .i64 a) := by rfl) (hy : ev l y = some (.int .i64 b) := by rfl) (hb : InI (a - b) := by unfold InI; omega) (hg : wantedL ops l g = some true := by rfl) (hd : Nat.blt d N = true := by rfl) :
    WL P N ops Q (⟨some d, .binOp .sub t x y t', ty, pos, af, g⟩ :: rest) l w := WL.step (o_sub hx hy hb k hg hd)
theorem X.E (k : WL P N ops Q rest ((d, undef) :: l) w) (hg : wantedL ops l g = some false := by rfl) (hd : Nat.blt d N = true := by rfl) : WL P N ops Q (⟨some d, op, ty, pos, af, g⟩ :: rest) l w := WL.step (OpW.pass hg k hd)
theorem X.F {id : Nat} (h : Q .normal l w) : inBlockE id Q (.exit id) l w := blkHit h
theorem X.G {id id' : Nat} (h : Q (.exit id') l w) (hne : Nat.beq id' id = false := by rfl) : inBlockE id Q (.exit id') l w := blkMiss hne h
theorem X.H {c : Operand} {x y : Code} (ht : WP P N x Q l w) (hc : ev l c = some (.bool true) := by rfl) : WP P N (.cond c x y) Q l w := WP.condT hc ht
theorem X.I {c : Operand} {x y : Code} (hf : WP P N y Q l w) (hc : ev l c = some (.bool false) := by rfl) : WP P N (.cond c x y) Q l w := WP.condF hc hf
theorem X.J {c : Operand} {x y : Code} {p : Prop} [Decidable p] (ht : p → WP P N x Q l w) (hf : ¬ p → WP P N y Q l w) (hc : ev l c = some (.bool (decide p)) := by rfl) : WP P N (.cond c x y) Q l w := WP.condD hc ht hf
theorem X.L {c : Operand} {x y : Code} {p : Prop} [Decidable p] (ht : ¬ p → WP P N x Q l w) (hf : p → WP P N y Q l w) (hc : ev l c = some (.bool (!decide p)) := by rfl) : WP P N (.cond c x y) Q l w := WP.condND hc ht hf
theorem X.M {c : Operand} {x y : Code} {b : Bool} (ht : b = false → WP P N x Q l w) (hf : b = true → WP P N y Q l w) (hc : ev l c = some (.bool (!b)) := by rfl) : WP P N (.cond c x y) Q l w := WP.condN hc ht hf
theorem X.R {c : Operand} {x y : Code} {b : Bool} (ht : b = true → WP P N x Q l w) (hf : b = false → WP P N y Q l w) (hc : ev l c = some (.bool b) := by rfl) : WP P N (.cond c x y) Q l w := WP.cond hc ht hf
theorem X.U {i : Nat} {v : Value} (hi : ops[i]? = some ⟨some d, op, ty, pos, af, g⟩) (k : WS P N ops Q S s ((d, v) :: l) w) (h : simple l op = some v := by rfl) (hS : S w := by first | rfl | assumption) (hg : wantedL ops l g = some true := by rfl) (hd : Nat.blt d N = true := by rfl) :
    WS P N ops Q S ((i, true) :: s) l w := WS.q hi (q_s h hg hd) hS k
theorem X.V {i : Nat} {t e : TypeId} {z : Value} {bytes : Nat} [SliceTy P t e z bytes] {x : Operand} {a : Option Addr} {n c : Nat} (hi : ops[i]? = some ⟨some d, .call { callee := .builtin .len, args := #[x], argTypes := #[t] }, ty, pos, af, g⟩) (k : WS P N ops Q S s ((d, .int .i64 n) :: l) w)
    (hx : ev l x = some (.slice a n c) := by rfl) (hS : S w := by first | rfl | assumption) (hg : wantedL ops l g = some true := by rfl) (hd : Nat.blt d N = true := by rfl) : WS P N ops Q S ((i, true) :: s) l w := WS.q hi (q_len hx hg hd) hS k
theorem X.W {i : Nat} {x y : Operand} {t t' : TypeId} {a b : Int} (hi : ops[i]? = some ⟨some d, .binOp .add t x y t', ty, pos, af, g⟩) (k : WS P N ops Q S s ((d, .int .i64 (a + b)) :: l) w) (hx : ev l x = some (.int .i64 a) := by rfl) (hy : ev l y = some (.int .i64 b) := by rfl) (hb : InI (a + b) := by unfold InI; omega)
    (hS : S w := by first | rfl | assumption) (hg : wantedL ops l g = some true := by rfl) (hd : Nat.blt d N = true := by rfl) : WS P N ops Q S ((i, true) :: s) l w := WS.q hi (q_add hx hy hb hg hd) hS k
theorem X.Y {i : Nat} {x y : Operand} {t t' : TypeId} {a b : Int} (hi : ops[i]? = some ⟨some d, .binOp .sub t x y t', ty, pos, af, g⟩) (k : WS P N ops Q S s ((d, .int .i64 (a - b)) :: l) w) (hx : ev l x = some (.int .i64 a) := by rfl) (hy : ev l y = some (.int .i64 b) := by rfl) (hb : InI (a - b) := by unfold InI; omega)
    (hS : S w := by first | rfl | assumption) (hg : wantedL ops l g = some true := by rfl) (hd : Nat.blt d N = true := by rfl) : WS P N ops Q S ((i, true) :: s) l w := WS.q hi (q_sub hx hy hb hg hd) hS k
theorem X.Z {i : Nat} (hi : ops[i]? = some ⟨some d, op, ty, pos, af, g⟩) (k : WS P N ops Q S s ((d, undef) :: l) w) (hg : wantedL ops l g = some false := by rfl) (hS : S w := by first | rfl | assumption) (hd : Nat.blt d N = true := by rfl) : WS P N ops Q S ((i, true) :: s) l w := WS.q hi (q_pass hg hd) hS k
end
theorem X.T {a b : Int} (h : a = b) : some (Value.int .i64 a) = some (Value.int .i64 b) := by rw [h]
end Go.Fw
