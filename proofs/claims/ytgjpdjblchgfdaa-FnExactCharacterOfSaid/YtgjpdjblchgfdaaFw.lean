/- A frame logic for walks: what a call does, slot by slot, with the slots kept as a list of known values. It is the base of the walks of this claim. -/
import Derived.WalkKit
import Derived.OrdersHeld
namespace Go.Fw
open Go

abbrev Fr := List (Nat × Value)

/-- The value that is known of a slot. -/
def look : Fr → Nat → Option Value
  | [], _ => none
  | (d, v) :: l, t => bif Nat.beq t d then some v else look l t

def ev (l : Fr) : Operand → Option Value
  | .tmp t => look l t
  | .const v => some v
  | .global g => some (.pointer (some ⟨g, 0, none⟩))
  | .func f => some (.func (.func f) #[] #[])

/-- The frame a has all that is known of it. -/
structure Rep (N : Nat) (a : Act) (l : Fr) : Prop where
  defers : a.defers = []
  size : a.tmps.size = N
  vals : ∀ t v, look l t = some v → a.tmps.getD t undef = v

theorem look_cons_self (d : Nat) (v : Value) (l : Fr) : look ((d, v) :: l) d = some v := by simp [look]
theorem look_cons_ne {d t : Nat} (v : Value) (l : Fr) (h : t ≠ d) : look ((d, v) :: l) t = look l t := by
  have : Nat.beq t d = false := by cases hb : Nat.beq t d <;> simp_all
  simp [look, this]

theorem Rep.ev {N : Nat} {a : Act} {l : Fr} (h : Rep N a l) {x : Operand} {v : Value} (hx : ev l x = some v) : a.eval x = v := by
  cases x with
  | tmp t => exact h.vals t v hx
  | const u => simp only [Fw.ev, Option.some.injEq] at hx; exact hx
  | global g => simpa [Fw.ev, Act.eval] using hx
  | func f => simpa [Fw.ev, Act.eval] using hx

theorem Rep.put {N : Nat} {a : Act} {l : Fr} (h : Rep N a l) {d : Nat} (hd : d < N) (v : Value) : Rep N (a.put (some d) v) ((d, v) :: l) := by
  refine ⟨h.defers, by simp [Act.put, h.size], fun t u hu => ?_⟩
  by_cases e : t = d
  · subst e
    rw [look_cons_self] at hu
    simp only [Option.some.injEq] at hu
    subst hu
    have : t < a.tmps.size := by rw [h.size]; exact hd
    simp [Act.put, this]
  · rw [look_cons_ne v l e] at hu
    have h1 := h.vals t u hu
    have h2 : d ≠ t := fun e' => e e'.symm
    simpa [Act.put, Array.getElem?_setIfInBounds_ne h2] using h1

theorem Rep.put_none {N : Nat} {a : Act} {l : Fr} (h : Rep N a l) (v : Value) : Rep N (a.put none v) l := h

/-- Everything that l' knows, l knows. -/
def Agree (l : Fr) : Fr → Prop
  | [] => True
  | (d, v) :: r => look l d = some v ∧ Agree l r

theorem agree_nil (l : Fr) : Agree l [] := trivial
theorem agree_cons {l r : Fr} {d : Nat} {v : Value} (h : look l d = some v) (h' : Agree l r) : Agree l ((d, v) :: r) := ⟨h, h'⟩

theorem Agree.look {l : Fr} : ∀ {r : Fr}, Agree l r → ∀ t v, look r t = some v → Fw.look l t = some v
  | [], _, t, v, hv => by cases hv
  | (d, u) :: r, h, t, v, hv => by
    by_cases e : t = d
    · subst e
      rw [look_cons_self] at hv
      simp only [Option.some.injEq] at hv
      subst hv
      exact h.1
    · rw [look_cons_ne u r e] at hv
      exact h.2.look t v hv

theorem Rep.weaken {N : Nat} {a : Act} {l r : Fr} (h : Rep N a l) (hr : Agree l r) : Rep N a r :=
  ⟨h.defers, h.size, fun t v hv => h.vals t v (hr.look t v hv)⟩

/-- A post on slots as a post on frames: it speaks of no panic. -/
def lft (N : Nat) (Q : Exit → Fr → World → Prop) : Exit → Act → World → Prop
  | .panic _, _, _ => False
  | .goto _, _, _ => False
  | .outgrown, _, _ => False
  | e, a, w => ∃ l, Rep N a l ∧ Q e l w

def WP (P : Program) (N : Nat) (c : Code) (Q : Exit → Fr → World → Prop) (l : Fr) (w : World) : Prop :=
  ∀ a, Rep N a l → c.wp P (lft N Q) a w

def WL (P : Program) (N : Nat) (ops : Array Oper) (Q : Exit → Fr → World → Prop) (rest : List Oper) (l : Fr) (w : World) : Prop :=
  ∀ a, Rep N a l → wpList P ops (lft N Q) rest a w

section
variable {P : Program} {N : Nat} {Q : Exit → Fr → World → Prop} {l : Fr} {w : World}

theorem WP.frame {c : Code} (r : Fr) (hr : Agree l r) (h : WP P N c Q r w) : WP P N c Q l w := fun a ha => h a (ha.weaken hr)

theorem WP.skip (h : Q .normal l w) : WP P N .skip Q l w := fun _ ha => wp_skip ⟨l, ha, h⟩
theorem WP.label {n : Nat} (h : Q .normal l w) : WP P N (.label n) Q l w := fun _ ha => wp_label ⟨l, ha, h⟩
theorem WP.exit {id : Nat} (h : Q (.exit id) l w) : WP P N (.exit id) Q l w := fun _ ha => wp_exit ⟨l, ha, h⟩
theorem WP.ret (h : Q .ret l w) : WP P N .ret Q l w := fun _ ha => wp_ret ⟨l, ha, h⟩

def thenE (K : Fr → World → Prop) (Q : Exit → Fr → World → Prop) : Exit → Fr → World → Prop
  | .normal, l, w => K l w
  | e, l, w => Q e l w

theorem WP.seq {x y : Code} (h : WP P N x (thenE (fun l w => WP P N y Q l w) Q) l w) : WP P N (.seq x y) Q l w := fun a ha => by
  refine wp_seq (wp_mono (h a ha) ?_)
  intro e a' w' he
  cases e with
  | normal => obtain ⟨l', hl, hK⟩ := he; exact hK a' hl
  | exit id => exact he
  | goto n => exact he
  | ret => exact he
  | panic c => exact he
  | outgrown => exact he

theorem thenN {K : Fr → World → Prop} (h : K l w) : thenE K Q .normal l w := h
theorem thenR {K : Fr → World → Prop} (h : Q .ret l w) : thenE K Q .ret l w := h
theorem thenX {K : Fr → World → Prop} {id : Nat} (h : Q (.exit id) l w) : thenE K Q (.exit id) l w := h

/-- As 'seq', with an assertion between the two parts. -/
theorem WP.seqMid {x y : Code} (M : Fr → World → Prop) (hx : WP P N x (thenE M Q) l w) (hy : ∀ l w, M l w → WP P N y Q l w) : WP P N (.seq x y) Q l w := by
  refine fun a ha => wp_seq (wp_mono (hx a ha) ?_)
  intro e a' w' he
  cases e with
  | normal => obtain ⟨l', hl, hK⟩ := he; exact hy _ _ hK a' hl
  | exit id => exact he
  | goto n => exact he
  | ret => exact he
  | panic c => exact he
  | outgrown => exact he

theorem WP.cond {c : Operand} {x y : Code} {b : Bool} (hc : ev l c = some (.bool b)) (ht : b = true → WP P N x Q l w) (hf : b = false → WP P N y Q l w) :
    WP P N (.cond c x y) Q l w := fun a ha => wp_cond_split (ha.ev hc) (fun h => ht h a ha) (fun h => hf h a ha)
theorem WP.condT {c : Operand} {x y : Code} (hc : ev l c = some (.bool true)) (ht : WP P N x Q l w) : WP P N (.cond c x y) Q l w :=
  WP.cond hc (fun _ => ht) (fun h => by cases h)
theorem WP.condF {c : Operand} {x y : Code} (hc : ev l c = some (.bool false)) (hf : WP P N y Q l w) : WP P N (.cond c x y) Q l w :=
  WP.cond hc (fun h => by cases h) (fun _ => hf)
/-- A test that is a proposition's. -/
theorem WP.condD {c : Operand} {x y : Code} {p : Prop} [Decidable p] (hc : ev l c = some (.bool (decide p))) (ht : p → WP P N x Q l w) (hf : ¬ p → WP P N y Q l w) :
    WP P N (.cond c x y) Q l w := WP.cond hc (fun h => ht (of_decide_eq_true h)) (fun h => hf (of_decide_eq_false h))

def inBlockE (id : Nat) (Q : Exit → Fr → World → Prop) : Exit → Fr → World → Prop
  | .exit id', l, w => if id' = id then Q .normal l w else Q (.exit id') l w
  | e, l, w => Q e l w

theorem WP.block {id : Nat} {c : Code} (h : WP P N c (inBlockE id Q) l w) : WP P N (.block id c) Q l w := fun a ha => by
  refine wp_block (wp_mono (h a ha) ?_)
  intro e a' w' he
  cases e with
  | normal => exact he
  | exit id' =>
    obtain ⟨l', hl, hq⟩ := he
    simp only [Exit.inBlock, inBlockE] at hq ⊢
    split
    · rename_i e; rw [if_pos e] at hq; exact ⟨l', hl, hq⟩
    · rename_i e; rw [if_neg e] at hq; exact ⟨l', hl, hq⟩
  | goto n => exact he
  | ret => exact he
  | panic c => exact he
  | outgrown => exact he

theorem blkN {id : Nat} (h : Q .normal l w) : inBlockE id Q .normal l w := h
theorem blkR {id : Nat} (h : Q .ret l w) : inBlockE id Q .ret l w := h
theorem blkHit {id : Nat} (h : Q .normal l w) : inBlockE id Q (.exit id) l w := by simp only [inBlockE, if_true]; exact h
theorem blkMiss {id id' : Nat} (hne : Nat.beq id' id = false) (h : Q (.exit id') l w) : inBlockE id Q (.exit id') l w := by
  have : ¬ id' = id := fun e => by subst e; simp at hne
  simp only [inBlockE, if_neg this]; exact h

theorem WP.condN {c : Operand} {x y : Code} {b : Bool} (hc : ev l c = some (.bool (!b))) (ht : b = false → WP P N x Q l w) (hf : b = true → WP P N y Q l w) :
    WP P N (.cond c x y) Q l w := WP.cond hc (fun h => ht (by simpa using h)) (fun h => hf (by simpa using h))
theorem WP.condND {c : Operand} {x y : Code} {p : Prop} [Decidable p] (hc : ev l c = some (.bool (!decide p))) (ht : ¬ p → WP P N x Q l w) (hf : p → WP P N y Q l w) :
    WP P N (.cond c x y) Q l w := WP.cond hc (fun h => ht (by simpa using h)) (fun h => hf (by simpa using h))

/-- A loop: its state s (of whatever type), what the slots hold in it, and what else holds of it and the world. -/
theorem WP.loop {σ : Type} {c : Code} (live : σ → Fr) (I : σ → World → Prop) (μ : σ → Nat) (s : σ) (hl : Agree l (live s)) (hI : I s w)
    (round : ∀ s w, I s w → WP P N c (thenE (fun l' w' => ∃ s', Agree l' (live s') ∧ I s' w' ∧ μ s' < μ s) Q) (live s) w) : WP P N (.loop c) Q l w := by
  intro a ha b k cs
  have key : ∀ n s a w, μ s = n → Rep N a (live s) → I s w →
      ∃ e a' w', lft N Q e a' w' ∧ Arrives P (lone (b.at a (.code c :: .inLoop c :: k)) cs w) b k cs e a' w' := by
    intro n
    induction n using Nat.strongRecOn with
    | _ n ih =>
      intro s a w hn hr hI
      obtain ⟨e, a₁, w₁, hq, harr⟩ := round s w hI a hr b (.inLoop c :: k) cs
      cases e with
      | normal =>
        obtain ⟨l₁, hl₁, s', hs', hI₁, hlt⟩ := hq
        obtain ⟨e₂, a₂, w₂, hq₂, harr₂⟩ := ih (μ s') (hn ▸ hlt) s' a₁ w₁ rfl (hl₁.weaken hs') hI₁
        exact ⟨e₂, a₂, w₂, hq₂, .of_steps (Steps.trans harr (.one step_inLoop)) harr₂⟩
      | exit id => exact ⟨.exit id, a₁, w₁, hq, .pass (x := .inLoop c) rfl (fun _ _ => .inl (by simp)) harr⟩
      | goto l => exact hq.elim
      | ret => exact ⟨.ret, a₁, w₁, hq, .pass (x := .inLoop c) rfl (fun _ _ => .inl (by simp)) harr⟩
      | panic ch => exact hq.elim
      | outgrown => exact hq.elim
  obtain ⟨e, a', w', hq, harr⟩ := key _ s a w rfl (ha.weaken hl) hI
  exact ⟨e, a', w', hq, .of_steps (.one step_loop) harr⟩

theorem WP.region {id : Nat} {ops : List Oper} (h : WL P N ops.toArray Q ops l w) : WP P N (.region id ops.toArray false) Q l w :=
  fun a ha => wp_region_lit (h a ha)

theorem WL.nil {ops : Array Oper} (h : Q .normal l w) : WL P N ops Q [] l w := fun _ ha => wpList_nil ⟨l, ha, h⟩

theorem WL.frame {ops : Array Oper} {rest : List Oper} (r : Fr) (hr : Agree l r) (h : WL P N ops Q rest r w) : WL P N ops Q rest l w := fun a ha => h a (ha.weaken hr)

/-- Is the operation wanted? -/
def wantedL (ops : Array Oper) (l : Fr) : Option (Nat × Bool) → Option Bool
  | none => some true
  | some (j, want) =>
    match (ops[j]?).bind (·.dst) with
    | some d =>
      match look l d with
      | some (.bool b) => some (b == want)
      | some (.tuple _) => some false
      | _ => none
    | none => none

theorem wantedL_sound {ops : Array Oper} {o : Oper} {a : Act} {b : Bool} (ha : Rep N a l) (h : wantedL ops l o.guard = some b) :
    Region.wanted o (yielded ops a.tmps) = b := by
  unfold wantedL at h
  unfold Region.wanted
  split at h
  · rename_i hg; rw [hg]; simpa using h
  · rename_i j want hg
    rw [hg]
    simp only
    split at h
    · rename_i d hd
      unfold yielded
      rw [hd]
      simp only [Option.bind_some]
      split at h
      · rename_i b' hb
        have hv := ha.vals d _ hb
        by_cases hlt : d < a.tmps.size
        · simp [hlt] at hv ⊢
          rw [hv]
          simpa using h
        · simp [hlt, undef] at hv
      · rename_i vs hb
        have hv := ha.vals d _ hb
        by_cases hlt : d < a.tmps.size
        · simp [hlt] at hv ⊢
          rw [hv]
          simpa using h
        · simp [hlt]
          simpa using h
      · cases h
    · cases h
end

section
variable {P : Program} {N : Nat} {Q : Exit → Fr → World → Prop} {l : Fr} {w : World} {ops : Array Oper} {rest : List Oper}
theorem Rep.lit {a : Act} {t : Nat} {b : Bool} (ha : Rep N a l) (hb : look l t = some (.bool b)) : Rep N a ((t, .bool b) :: l) := by
  refine ⟨ha.defers, ha.size, fun u v hv => ?_⟩
  by_cases e : u = t
  · subst e
    rw [look_cons_self] at hv
    simp only [Option.some.injEq] at hv
    subst hv
    exact ha.vals u _ hb
  · rw [look_cons_ne _ _ e] at hv
    exact ha.vals u v hv
/-- A slot that holds a truth value: both cases. -/
theorem WL.split {t : Nat} {b : Bool} (hb : look l t = some (.bool b)) (ht : b = true → WL P N ops Q rest ((t, .bool true) :: l) w) (hf : b = false → WL P N ops Q rest ((t, .bool false) :: l) w) : WL P N ops Q rest l w := fun a ha => by
  cases b
  · exact hf rfl a (ha.lit hb)
  · exact ht rfl a (ha.lit hb)
/-- The same, at the head operation's guard. -/
theorem WL.gsplit {o : Oper} {j t : Nat} {want b : Bool} (_hg : o.guard = some (j, want)) (_hd : (ops[j]?).bind (·.dst) = some t) (hb : look l t = some (.bool b))
    (ht : b = true → WL P N ops Q (o :: rest) ((t, .bool true) :: l) w) (hf : b = false → WL P N ops Q (o :: rest) ((t, .bool false) :: l) w) : WL P N ops Q (o :: rest) l w := WL.split hb ht hf
theorem WL.gsplitD {o : Oper} {j t : Nat} {want : Bool} {p : Prop} [Decidable p] (_hg : o.guard = some (j, want)) (_hd : (ops[j]?).bind (·.dst) = some t) (hb : look l t = some (.bool (decide p)))
    (ht : p → WL P N ops Q (o :: rest) ((t, .bool true) :: l) w) (hf : ¬ p → WL P N ops Q (o :: rest) ((t, .bool false) :: l) w) : WL P N ops Q (o :: rest) l w :=
  WL.split hb (fun h => ht (of_decide_eq_true h)) (fun h => hf (of_decide_eq_false h))
theorem WL.gsplitND {o : Oper} {j t : Nat} {want : Bool} {p : Prop} [Decidable p] (_hg : o.guard = some (j, want)) (_hd : (ops[j]?).bind (·.dst) = some t) (hb : look l t = some (.bool (!decide p)))
    (ht : ¬ p → WL P N ops Q (o :: rest) ((t, .bool true) :: l) w) (hf : p → WL P N ops Q (o :: rest) ((t, .bool false) :: l) w) : WL P N ops Q (o :: rest) l w :=
  WL.split hb (fun h => ht (by simpa using h)) (fun h => hf (by simpa using h))
theorem WL.gsplitN {o : Oper} {j t : Nat} {want b : Bool} (_hg : o.guard = some (j, want)) (_hd : (ops[j]?).bind (·.dst) = some t) (hb : look l t = some (.bool (!b)))
    (ht : b = false → WL P N ops Q (o :: rest) ((t, .bool true) :: l) w) (hf : b = true → WL P N ops Q (o :: rest) ((t, .bool false) :: l) w) : WL P N ops Q (o :: rest) l w :=
  WL.split hb (fun h => ht (by simpa using h)) (fun h => hf (by simpa using h))
end

/-! ### One operation -/

def OpW (P : Program) (N : Nat) (ops : Array Oper) (Q : Exit → Fr → World → Prop) (o : Oper) (l : Fr) (w : World) (K : Fr → World → Prop) : Prop :=
  ∀ a, Rep N a l → ∀ K' : Act → World → Prop, (∀ a' l' w', Rep N a' l' → K l' w' → K' a' w') →
    (if Region.wanted o (yielded ops a.tmps) then o.wp P a w K' (lft N Q) ∨ (o.asks P a w ∧ LetsOut (lft N Q)) else K' (a.put o.dst undef) w)

section
variable {P : Program} {N : Nat} {Q : Exit → Fr → World → Prop} {l : Fr} {w w' : World} {ops : Array Oper} {K : Fr → World → Prop}

theorem WL.step {o : Oper} {rest : List Oper} (h : OpW P N ops Q o l w (fun l' w' => WL P N ops Q rest l' w')) : WL P N ops Q (o :: rest) l w :=
  fun a ha => h a ha (wpList P ops (lft N Q) rest) (fun a' _ _ ha' hk => hk a' ha')

theorem OpW.val {d : Nat} {op : Op} {ty : TypeId} {pos : String} {af : Array Edge} {g : Option (Nat × Bool)} {v : Value}
    (hr : ∀ a, Rep N a l → (execOp a.eval ⟨some d, op, ty, pos, af, g⟩).run P w = .ok (.value v) w')
    (k : K ((d, v) :: l) w') (hg : wantedL ops l g = some true := by rfl) (hd : Nat.blt d N = true := by rfl) : OpW P N ops Q ⟨some d, op, ty, pos, af, g⟩ l w K := fun a ha K' hK => by
  rw [wantedL_sound (o := ⟨some d, op, ty, pos, af, g⟩) ha hg]
  refine .inl ?_
  unfold Oper.wp
  rw [hr a ha]
  exact hK _ _ _ (ha.put (Nat.blt_eq.mp hd) v) k

theorem OpW.unit {op : Op} {ty : TypeId} {pos : String} {af : Array Edge} {g : Option (Nat × Bool)}
    (hr : ∀ a, Rep N a l → (execOp a.eval ⟨none, op, ty, pos, af, g⟩).run P w = .ok .skip w')
    (k : K l w') (hg : wantedL ops l g = some true := by rfl) : OpW P N ops Q ⟨none, op, ty, pos, af, g⟩ l w K := fun a ha K' hK => by
  rw [wantedL_sound (o := ⟨none, op, ty, pos, af, g⟩) ha hg]
  refine .inl ?_
  unfold Oper.wp
  rw [hr a ha]
  exact hK _ _ _ ha k

/-- An operation whose guard is not met. -/
theorem OpW.pass {d : Nat} {op : Op} {ty : TypeId} {pos : String} {af : Array Edge} {g : Option (Nat × Bool)}
    (hg : wantedL ops l g = some false) (k : K ((d, undef) :: l) w) (hd : Nat.blt d N = true := by rfl) : OpW P N ops Q ⟨some d, op, ty, pos, af, g⟩ l w K := fun a ha K' hK => by
  rw [wantedL_sound (o := ⟨some d, op, ty, pos, af, g⟩) ha hg]
  exact hK _ _ _ (ha.put (Nat.blt_eq.mp hd) undef) k
theorem OpW.passN {op : Op} {ty : TypeId} {pos : String} {af : Array Edge} {g : Option (Nat × Bool)}
    (hg : wantedL ops l g = some false) (k : K l w) : OpW P N ops Q ⟨none, op, ty, pos, af, g⟩ l w K := fun a ha K' hK => by
  rw [wantedL_sound (o := ⟨none, op, ty, pos, af, g⟩) ha hg]
  exact hK _ _ _ ha k

/-- A function of the program that has a body. -/
class FuncTy (P : Program) (f : FuncId) : Prop where
  is : ∃ fn, P.funcs[f]? = some fn ∧ (fn.name == "runtime.NumGoroutine") = false ∧ fn.body.isNone = false

theorem run_callFunc {f : FuncId} [h : FuncTy P f] (args : Array Value) : (callFunc f args).run P w = .ok (.enter f args) w := by
  obtain ⟨fn, h1, h2, h3⟩ := h.is
  have h4 : (fn.name = "runtime.NumGoroutine") = False := by simpa using h2
  have h5 : (fn.body = none) = False := by cases hb : fn.body <;> simp_all
  simp [callFunc, program, Sem.run_bind, Sem.run, h1, h4, h5, Result.andThen]

def evs (l : Fr) : List Operand → Option (List Value)
  | [] => some []
  | x :: xs => match ev l x, evs l xs with
    | some v, some vs => some (v :: vs)
    | _, _ => none

theorem evs_map {a : Act} (ha : Rep N a l) : ∀ {xs : List Operand} {vs : List Value}, evs l xs = some vs → xs.map a.eval = vs
  | [], vs, h => by simpa [evs] using h
  | x :: xs, vs, h => by
    unfold evs at h
    split at h
    · rename_i v vs' h1 h2
      simp only [Option.some.injEq] at h
      subst h
      simp [ha.ev h1, evs_map ha h2]
    · cases h

/-- A call of a function by its contract. -/
theorem OpW.call {d : Nat} {f : FuncId} [FuncTy P f] {fx : Operand} {xs : List Operand} {tys : Array TypeId} {ty : TypeId} {pos : String} {af : Array Edge} {g : Option (Nat × Bool)} {vs cap : List Value} {fst : List Value}
    (hf : ev l fx = some (.func (.func f) fst.toArray cap.toArray)) (hx : evs l xs = some vs)
    (hc : Calls P f (fst ++ vs ++ cap).toArray w fun e w' => ∃ v, e = .returned v ∧ K ((d, v) :: l) w')
    (hg : wantedL ops l g = some true := by rfl) (hd : Nat.blt d N = true := by rfl) :
    OpW P N ops Q ⟨some d, .call { callee := .value fx, args := xs.toArray, argTypes := tys }, ty, pos, af, g⟩ l w K := fun a ha K' hK => by
  rw [wantedL_sound (o := ⟨some d, _, ty, pos, af, g⟩) ha hg]
  refine .inl ?_
  have hm : xs.map a.eval = vs := evs_map ha hx
  have hr : (execOp a.eval ⟨some d, .call { callee := .value fx, args := xs.toArray, argTypes := tys }, ty, pos, af, g⟩).run P w = .ok (.enter f (fst ++ vs ++ cap).toArray) w := by
    simp [execOp, resolve, ha.ev hf, Deferred.ofValue, invoke, hm, run_callFunc]
  unfold Oper.wp
  rw [hr]
  refine hc.mono fun e w1 ⟨v, he, hk⟩ => ?_
  subst he
  exact hK _ _ _ (ha.put (Nat.blt_eq.mp hd) v) hk
end

end Go.Fw
