/- append on a slice that the call owns; how a call is entered and left; regions whose order is open. -/
import Derived.Test.YtgjpdjblchgfdaaMem
namespace Go.Fw
open Go Go.RowKit

/-- The first n cells behind a slice value. -/
def Src (w : World) (v : Value) (news : List Value) : Prop :=
  ∃ a c, v = .slice a news.length c ∧ ∀ (i : Nat) u, news[i]? = some u → ∃ b o, a = some ⟨b, o, none⟩ ∧ w.cell? ⟨b, o + i, none⟩ = some u

theorem Own.src {lo : Nat} {e : TypeId} {w : World} {v : Value} {us : List Value} (h : Own lo e w v us) : Src w v us := by
  obtain ⟨a, c, hv, _⟩ := h.shape
  refine ⟨a, c, hv, fun i u hu => ?_⟩
  obtain ⟨g, c', hv', _, _, hcell, _⟩ := h.cell hu
  rw [hv] at hv'
  simp only [Value.slice.injEq] at hv'
  exact ⟨g, 0, hv'.1, by simpa using hcell⟩

theorem IS.src {lo hi : Nat} {w : World} {v : Value} {xs : List Int} (h : IS lo hi w v xs) : Src w v (Ints xs) := by
  obtain ⟨_, a, c, hv, _, _, h⟩ := h
  refine ⟨a, c, by rw [hv, Ints_length], fun i u hu => ?_⟩
  rw [Ints_get] at hu
  cases hx : xs[i]? with
  | none => simp [hx] at hu
  | some x =>
    simp [hx] at hu
    obtain ⟨b, o, u', ha, _, _, hc, hr⟩ := h i x hx
    exact ⟨b, o, ha, by rw [hc, hr, hu]⟩

theorem one1 {u : Value} (h : u.oneCell' = true) : ∀ x ∈ [u], x.oneCell' = true := fun x hx => by simp only [List.mem_singleton] at hx; rw [hx]; exact h
theorem one0 : ∀ x ∈ ([] : List Value), x.oneCell' = true := fun x hx => by simp at hx

theorem Ints_one {xs : List Int} : ∀ u ∈ Ints xs, u.oneCell' = true := by
  intro u hu
  obtain ⟨x, _, rfl⟩ := List.mem_map.1 hu
  rfl

section
variable {P : Program} {N : Nat} {Q : Exit → Fr → World → Prop} {l : Fr} {w w' : World} {ops : Array Oper} {K : Fr → World → Prop}
variable {d : Nat} {ty : TypeId} {pos : String} {af : Array Edge} {g : Option (Nat × Bool)}

theorem run_append {t e : TypeId} {z : Value} {bytes : Nat} (h : SliceTy P t e z bytes) {lo : Nat} {v vx : Value} {us news : List Value} (hown : Own lo e w v us) (hsrc : Src w vx news) (h1 : ∀ u ∈ news, u.oneCell' = true)
    (hm : us.length + news.length ≤ maxLen) (hb : (us.length + news.length) * bytes ≤ 140737488355328) (hlo : lo ≤ w.heap.size) :
    ∃ v' w', (Builtin.append_ #[t, t] ty #[v, vx]).run P w = .ok v' w' ∧ Own lo e w' v' (us ++ news) ∧ w.grownBy w' v.ownBlock ∧ (v' = .slice none 0 0 ↔ v = .slice none 0 0 ∧ news = []) := by
  obtain ⟨i0, hi, hz0, hz1, hz2⟩ := info_parts h.info
  obtain ⟨a, c, rfl, hs⟩ := hsrc
  cases a with
  | some ad =>
    have hnews : ∀ j u, news[j]? = some u → w.cell? (ad.add j) = some u := fun j u hu => by
      obtain ⟨b, o, he, hc⟩ := hs j u hu
      simp only [Option.some.injEq] at he
      subst he
      have : (⟨b, o, none⟩ : Addr).add j = ⟨b, o + j, none⟩ := by unfold Addr.add; split <;> simp_all
      rw [this]; exact hc
    obtain ⟨v', w', hr, h2, h3, h4⟩ := run_append_own (P := P) w lo t ty e i0 z 1 bytes h.und hi hz0 hz1 hz2 (by rw [h.one]; rfl) (by decide) v us.length us hown ad news.length c news (by simp) hnews h1 hm hb hlo
    refine ⟨v', w', hr, ?_, h3, ?_⟩
    · unfold Own; rw [List.length_append]; exact h2
    · rw [h4]
      constructor
      · rintro ⟨x, y⟩; exact ⟨x, List.eq_nil_of_length_eq_zero y⟩
      · rintro ⟨x, y⟩; exact ⟨x, by simp [y]⟩
  | none =>
    have hn : news = [] := by
      cases news with
      | nil => rfl
      | cons u r => obtain ⟨b, o, he, _⟩ := hs 0 u (by simp); cases he
    subst hn
    refine ⟨v, w, ?_, by simpa using hown, ⟨rfl, rfl, rfl, Nat.le_refl _, fun _ _ _ => rfl⟩, by simp⟩
    obtain ⟨a, c', rfl, hc, _, _⟩ := hown.shape
    cases a <;> simp [Builtin.append_, run_underlying h.und, sizeOf, typeInfo, hi, Builtin.lenOf, Builtin.firstCells, hc, storeCells]

/-- append(s, x...). -/
theorem o_append {t e : TypeId} {z : Value} {bytes : Nat} [h : SliceTy P t e z bytes] {lo : Nat} {s x : Operand} {v vx : Value} {us news : List Value} (hs : ev l s = some v) (hx : ev l x = some vx) (hown : Own lo e w v us) (hsrc : Src w vx news) (h1 : ∀ u ∈ news, u.oneCell' = true)
    (hm : us.length + news.length ≤ maxLen) (hb : (us.length + news.length) * bytes ≤ 140737488355328) (hlo : lo ≤ w.heap.size)
    (k : ∀ v' w', Own lo e w' v' (us ++ news) → w.grownBy w' v.ownBlock → Below lo w w' → (v' = .slice none 0 0 ↔ v = .slice none 0 0 ∧ news = []) → K ((d, v') :: l) w')
    (hg : wantedL ops l g = some true := by rfl) (hd : Nat.blt d N = true := by rfl) : OpW P N ops Q ⟨some d, .call { callee := .builtin .append, args := #[s, x], argTypes := #[t, t] }, ty, pos, af, g⟩ l w K := by
  obtain ⟨v', w', hr, h2, h3, h4⟩ := run_append (ty := ty) h hown hsrc h1 hm hb hlo
  refine OpW.val (w' := w') (v := v') (fun fr ha => ?_) (k v' w' h2 h3 (grown_below h3 hlo fun k hk => (hown.block k hk).1) h4) hg hd
  simp [execOp, resolve, invoke, builtin, ha.ev hs, ha.ev hx, hr]

/-- append(s, x): the two operations of it. -/
theorem o_append1 {t e : TypeId} {z : Value} {bytes : Nat} [h : SliceTy P t e z bytes] {lo d1 d2 : Nat} {s x y : Operand} {v u : Value} {us : List Value} {rest : List Oper} {ty1 ty2 : TypeId} {pos1 pos2 : String} {af1 af2 : Array Edge}
    (hs : ∀ u', ev ((d1, u') :: l) s = some v) (hx : ev l x = some u) (hown : Own lo e w v us) (h1 : u.oneCell' = true)
    (hm : us.length + 1 ≤ maxLen) (hb : (us.length + 1) * bytes ≤ 140737488355328) (hlo : lo ≤ w.heap.size)
    (k : ∀ p v' w', Own lo e w' v' (us ++ [u]) → Below lo w w' → (∀ k, k < w.heap.size → v.ownBlock ≠ some k → w'.heap[k]? = w.heap[k]?) → w.heap.size < w'.heap.size → v' ≠ .slice none 0 0 → WL P N ops Q rest ((d2, v') :: (d1, p) :: l) w') (hy : y = .tmp d1 := by rfl)
    (hd1 : Nat.blt d1 N = true := by rfl) (hd2 : Nat.blt d2 N = true := by rfl) :
    WL P N ops Q (⟨some d1, .buildSlice t 1 #[(0, x)], ty1, pos1, af1, none⟩ :: ⟨some d2, .call { callee := .builtin .append, args := #[s, y], argTypes := #[t, t] }, ty2, pos2, af2, none⟩ :: rest) l w := by
  subst hy
  refine WL.step (o_lit (us := [u]) (by rfl) (by simp [evs, hx]) rfl (by decide) (by simpa using h1) ?_ rfl hd1)
  intro v1 w1 hown1 hb1 hz1 hv1
  have hown' : Own lo e w1 v us := hown.below hb1 (Nat.le_refl _)
  refine WL.step (o_append (hs v1) (look_cons_self _ _ _) hown' hown1.src (by simpa using h1) (by simpa using hm) (by simpa using hb) (by omega) ?_ rfl hd2)
  intro v' w' ho hg hbl hnil
  refine k v1 v' w' ho ((Below.mono hb1 (by omega)).trans hbl) (fun k hk hne => ?_) (by have := hg.size; omega) (fun hc => ?_)
  · rw [hg.block k (by omega) (fun e => hne e.symm), hb1.block k hk]
  · have := hnil.1 hc
    simp at this
end

/-! ### A call -/

/-- The frame in which a function begins. -/
def argFr (i : Nat) : List Value → Fr
  | [] => []
  | v :: vs => (i, v) :: argFr (i + 1) vs

theorem look_argFr : ∀ (vs : List Value) (i t : Nat) (v : Value), look (argFr i vs) t = some v → i ≤ t ∧ vs[t - i]? = some v
  | [], _, _, _, h => by cases h
  | u :: vs, i, t, v, h => by
    by_cases e : t = i
    · subst e
      have h' := look_cons_self t u (argFr (t + 1) vs)
      rw [argFr, h'] at h
      simp at h
      simp [h]
    · rw [argFr, look_cons_ne _ _ e] at h
      obtain ⟨h1, h2⟩ := look_argFr vs (i + 1) t v h
      refine ⟨by omega, ?_⟩
      rw [show t - i = (t - (i + 1)) + 1 from by omega]
      simpa using h2

/-- What the function's result variables hold. -/
def RetVal (P : Program) (fn : Func) (l : Fr) (w : World) (v : Value) : Prop := ∀ a, Rep fn.ntmps a l → (results fn a.tmps).run P w = .ok v w

/-- The call returns; Phi says what, and what the world is then. -/
def Does (P : Program) (f : FuncId) (vs : List Value) (w : World) (Phi : Value → World → Prop) : Prop := Calls P f vs.toArray w fun e w' => ∃ v, e = .returned v ∧ Phi v w'

theorem Does.mono {P : Program} {f : FuncId} {vs : List Value} {w : World} {Phi Psi : Value → World → Prop} (h : Does P f vs w Phi) (hq : ∀ v w', Phi v w' → Psi v w') : Does P f vs w Psi :=
  Calls.mono h fun _ w' ⟨v, he, hv⟩ => ⟨v, he, hq v w' hv⟩

def retPost (P : Program) (fn : Func) (Phi : Value → World → Prop) : Exit → Fr → World → Prop
  | .normal, l, w | .ret, l, w => ∃ v, RetVal P fn l w v ∧ Phi v w
  | _, _, _ => False

theorem Does.enter {P : Program} {f : FuncId} {fn : Func} {c : Code} {vs : List Value} {w : World} {Phi : Value → World → Prop} {N : Nat}
    (hf : P.funcs[f]? = some fn) (hN : fn.ntmps = N) (hb : fn.body = some c) (hn : Nat.ble vs.length N = true)
    (h : WP P N c (retPost P fn Phi) (argFr 0 vs) w) : Does P f vs w Phi := by
  subst hN
  have hn' : vs.length ≤ fn.ntmps := Nat.ble_eq.mp hn
  refine calls_of_wp hf hb (wp_mono (h _ ⟨rfl, by simp; omega, fun t v hv => ?_⟩) ?_)
  · obtain ⟨_, h2⟩ := look_argFr vs 0 t v hv
    simp only [Nat.sub_zero] at h2
    have hlt : t < vs.length := (List.getElem?_eq_some_iff.1 h2).1
    simp only [Array.getD_eq_getD_getElem?, Array.getElem?_append, List.size_toArray, hlt, if_true, List.getElem?_toArray, h2, Option.getD_some]
  · intro e a w' he
    cases e with
    | normal => obtain ⟨l, hr, v, hv, hR⟩ := he; exact ⟨hr.defers, v, hv a hr, v, rfl, hR⟩
    | ret => obtain ⟨l, hr, v, hv, hR⟩ := he; exact ⟨hr.defers, v, hv a hr, v, rfl, hR⟩
    | exit id => obtain ⟨l, hr, hq⟩ := he; exact hq.elim
    | goto n => exact he.elim
    | panic c => exact he.elim
    | outgrown => exact he.elim

section
variable {P : Program} {N : Nat} {Q : Exit → Fr → World → Prop} {l : Fr} {w : World} {ops : Array Oper} {K : Fr → World → Prop}
variable {d : Nat} {ty : TypeId} {pos : String} {af : Array Edge} {g : Option (Nat × Bool)}

theorem o_call {f : FuncId} [FuncTy P f] {xs : List Operand} {tys : Array TypeId} {vs : List Value} {Phi : Value → World → Prop}
    (hc : Does P f vs w Phi) (k : ∀ v w', Phi v w' → K ((d, v) :: l) w') (hx : evs l xs = some vs := by rfl)
    (hg : wantedL ops l g = some true := by rfl) (hd : Nat.blt d N = true := by rfl) :
    OpW P N ops Q ⟨some d, .call { callee := .value (.func f), args := xs.toArray, argTypes := tys }, ty, pos, af, g⟩ l w K :=
  OpW.call (fst := []) (cap := []) (f := f) rfl hx (by simpa using Calls.mono hc fun _ w' ⟨v, he, hv⟩ => ⟨v, he, k v w' hv⟩) hg hd

/-- A call of a function value. -/
theorem o_callV {f : FuncId} [FuncTy P f] {x : Operand} {xs : List Operand} {tys : Array TypeId} {vs fst cap : List Value} {Phi : Value → World → Prop}
    (hf : ev l x = some (.func (.func f) fst.toArray cap.toArray)) (hc : Does P f (fst ++ vs ++ cap) w Phi) (k : ∀ v w', Phi v w' → K ((d, v) :: l) w') (hx : evs l xs = some vs := by rfl)
    (hg : wantedL ops l g = some true := by rfl) (hd : Nat.blt d N = true := by rfl) :
    OpW P N ops Q ⟨some d, .call { callee := .value x, args := xs.toArray, argTypes := tys }, ty, pos, af, g⟩ l w K :=
  OpW.call (f := f) hf hx (Calls.mono hc fun _ w' ⟨v, he, hv⟩ => ⟨v, he, k v w' hv⟩) hg hd

theorem WL.call {f : FuncId} [FuncTy P f] {xs : List Operand} {tys : Array TypeId} {vs : List Value} {Phi : Value → World → Prop} {rest : List Oper}
    (hc : Does P f vs w Phi) (k : ∀ v w', Phi v w' → WL P N ops Q rest ((d, v) :: l) w') (hx : evs l xs = some vs := by rfl)
    (hg : wantedL ops l g = some true := by rfl) (hd : Nat.blt d N = true := by rfl) :
    WL P N ops Q (⟨some d, .call { callee := .value (.func f), args := xs.toArray, argTypes := tys }, ty, pos, af, g⟩ :: rest) l w :=
  WL.step (o_call hc k hx hg hd)
end

section
variable {P : Program} {fn : Func} {l : Fr} {w : World}
theorem ret0 (h : fn.results = #[]) : RetVal P fn l w (.tuple #[]) := fun a _ => by simp [results, h]
theorem ret1 {t : Nat} {v : Value} (h : fn.results = #[.tmp t]) (hv : look l t = some v) : RetVal P fn l w v := fun a ha => by
  rw [results_tmp h, ha.vals t v hv]
theorem ret2 {t u : Nat} {v v' : Value} (h : fn.results = #[.tmp t, .tmp u]) (hv : look l t = some v) (hv' : look l u = some v') : RetVal P fn l w (.tuple #[v, v']) := fun a ha => by
  rw [results_tmp2 h, ha.vals t v hv, ha.vals u v' hv']
theorem ret3 {t u s : Nat} {v v' v'' : Value} (h : fn.results = #[.tmp t, .tmp u, .tmp s]) (hv : look l t = some v) (hv' : look l u = some v') (hv'' : look l s = some v'') : RetVal P fn l w (.tuple #[v, v', v'']) := fun a ha => by
  rw [results_tmp3 h, ha.vals t v hv, ha.vals u v' hv', ha.vals s v'' hv'']
/-- A result that is a struct. -/
theorem retS {t b n : Nat} {ty tt : TypeId} {cs : List Value} {z : Array Value} [hs : StructTy P ty n z] (h : fn.results = #[.cell t ty]) (hv : look l t = some (.pointer (some ⟨b, 0, none⟩))) (hb : Blk w b cs tt) (hn : cs.length = n) : RetVal P fn l w (.agg cs.toArray) := fun a ha => by
  obtain ⟨fs, hu⟩ := hs.und
  exact results_cell_row h a.tmps w b tt cs.toArray (0, 0) _ (ha.vals t _ hv) hb hu rfl (by have := hs.size; cases hi : P.info? ty <;> simp_all)
/-- A struct and a value of one cell. -/
theorem retS1 {t u b n : Nat} {ty tt : TypeId} {cs : List Value} {v : Value} {z : Array Value} [hs : StructTy P ty n z] (h : fn.results = #[.cell t ty, .tmp u]) (hv : look l t = some (.pointer (some ⟨b, 0, none⟩))) (hb : Blk w b cs tt) (hn : cs.length = n) (hv' : look l u = some v) :
    RetVal P fn l w (.tuple #[.agg cs.toArray, v]) := fun a ha => by
  obtain ⟨fs, hu⟩ := hs.und
  have hr := run_loadVar_row (P := P) w b tt ty cs.toArray (0, 0) _ hb hu rfl (by have := hs.size; cases hi : P.info? ty <;> simp_all)
  have h1 := ha.vals t _ hv
  have h2 := ha.vals u _ hv'
  simp only [Array.getD_eq_getD_getElem?] at h1 h2
  simp [results, h, h1, h2, asAddr, hr]
end
end Go.Fw
