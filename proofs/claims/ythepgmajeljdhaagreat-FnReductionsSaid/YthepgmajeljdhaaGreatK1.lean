/- Slices of structs of three cells that the call owns: literals, append, elements read and written. -/
import Derived.Test.YthepgmajeljdhaaGreatHB
namespace Go.Fw
open Go Go.RowKit
/-- A slice type whose elements have three cells. -/
class SliceTy3 (P : Program) (t : TypeId) (e : outParam TypeId) (z : outParam (Array Value)) (bytes : outParam Nat) : Prop where
  und : P.underlying t = some (.slice e)
  info : (P.info? e).map (fun i => (i.zero, i.size, i.bytes)) = some (some (.agg z), 3, bytes)
  three : ∃ a b c, z = #[a, b, c]
abbrev Tri := Value × Value × Value
def Tri.cells (t : Tri) : List Value := [t.1, t.2.1, t.2.2]
def Tri.one (t : Tri) : Prop := t.1.oneCell' = true ∧ t.2.1.oneCell' = true ∧ t.2.2.oneCell' = true
def flat3 (ts : List Tri) : List Value := ts.flatMap Tri.cells
theorem flat3_length (ts : List Tri) : (flat3 ts).length = ts.length * 3 := by
  induction ts with
  | nil => rfl
  | cons t ts ih => unfold flat3 at *; rw [List.flatMap_cons, List.length_append, ih, List.length_cons]; simp [Tri.cells]; omega
theorem flat3_cons (t : Tri) (ts : List Tri) : flat3 (t :: ts) = t.cells ++ flat3 ts := rfl
theorem flat3_append (a b : List Tri) : flat3 (a ++ b) = flat3 a ++ flat3 b := by unfold flat3; rw [List.flatMap_append]
theorem flat3_get : ∀ (ts : List Tri) {i : Nat} {t : Tri}, ts[i]? = some t → ∀ j, j < 3 → (flat3 ts)[i * 3 + j]? = t.cells[j]?
  | [], i, t, h, _, _ => by simp at h
  | s :: ts, 0, t, h, j, hj => by
    simp at h; subst h
    rw [flat3_cons, List.getElem?_append_left (by simp [Tri.cells]; omega), Nat.zero_mul, Nat.zero_add]
  | s :: ts, i + 1, t, h, j, hj => by
    rw [flat3_cons, List.getElem?_append_right (by simp [Tri.cells]; omega)]
    rw [show (i + 1) * 3 + j - (Tri.cells s).length = i * 3 + j from by simp [Tri.cells]; omega]
    exact flat3_get ts (by simpa using h) j hj
/-- A slice of triples that the call owns. -/
def Own3 (lo : Nat) (e : TypeId) (w : World) (v : Value) (ts : List Tri) : Prop := w.ownsRow lo e 3 v ts.length (flat3 ts)
section
variable {lo : Nat} {e : TypeId} {w w' : World} {v : Value} {ts : List Tri}
theorem Own3.nil (w : World) (lo : Nat) (e : TypeId) : Own3 lo e w (.slice none 0 0) [] := World.ownsRow_nil w lo e 3
theorem Own3.shape (h : Own3 lo e w v ts) : ∃ a c, v = .slice a ts.length c ∧ ts.length ≤ c ∧ ts.length ≤ maxLen ∧ (a = none → c = 0 ∧ ts = []) := by
  obtain ⟨_, ⟨rfl, h0⟩ | ⟨g, cap, cur, rfl, _, _, hn, hm, _, _⟩⟩ := h
  · have : ts = [] := List.eq_nil_of_length_eq_zero h0
    subst this
    exact ⟨none, 0, rfl, Nat.le_refl _, Nat.zero_le _, fun _ => ⟨rfl, rfl⟩⟩
  · exact ⟨_, cap, rfl, hn, by omega, fun h => by cases h⟩
theorem Own3.block (h : Own3 lo e w v ts) : ∀ k, v.ownBlock = some k → lo ≤ k ∧ k < w.heap.size := World.ownsRow.lt h
theorem Own3.keep (h : Own3 lo e w v ts) (hs : ∀ k, v.ownBlock = some k → w'.heap[k]? = w.heap[k]?) : Own3 lo e w' v ts := by
  obtain ⟨h1, ⟨rfl, h0⟩ | ⟨g, cap, cur, rfl, hb, hg, rest⟩⟩ := h
  · exact ⟨h1, .inl ⟨rfl, h0⟩⟩
  · exact ⟨h1, .inr ⟨g, cap, cur, rfl, hb, by rw [hs g rfl]; exact hg, rest⟩⟩
theorem Own3.below {B : Nat} (h : Own3 lo e w v ts) (hb : Below B w w') (hB : w.heap.size ≤ B) : Own3 lo e w' v ts :=
  h.keep fun k hk => hb.block k (by have := (h.block k hk).2; omega)
theorem Own3.still (h : Own3 lo e w v ts) (hs : Still w w') : Own3 lo e w' v ts := h.keep fun k _ => by rw [hs.heap]
theorem Own3.lower {lo' : Nat} (h : Own3 lo e w v ts) (hl : lo' ≤ lo) : Own3 lo' e w v ts := by
  obtain ⟨h1, ⟨rfl, h0⟩ | ⟨g, cap, cur, rfl, hb, hg, rest⟩⟩ := h
  · exact ⟨h1, .inl ⟨rfl, h0⟩⟩
  · exact ⟨h1, .inr ⟨g, cap, cur, rfl, by omega, hg, rest⟩⟩
theorem Own3.elem (h : Own3 lo e w v ts) {k : Nat} (hk : v.ownBlock = some k) : ∃ cur, w.heap[k]? = some (.cells cur e (0, 0)) := by
  obtain ⟨_, ⟨rfl, _⟩ | ⟨g, cap, cur, rfl, _, hg, _⟩⟩ := h
  · simp [Value.ownBlock] at hk
  · simp [Value.ownBlock] at hk
    subst hk
    exact ⟨cur, hg⟩
theorem Own3.place (h : Own3 lo e w v ts) {i : Nat} {t : Tri} (ht : ts[i]? = some t) : ∃ g c, v = .slice (some ⟨g, 0, none⟩) ts.length c ∧ lo ≤ g ∧ g < w.heap.size ∧ (∀ j u, t.cells[j]? = some u → w.cell? ⟨g, i * 3 + j, none⟩ = some u) ∧ (∀ j, w.frozen? ⟨g, j, none⟩ = false) ∧ v.ownBlock = some g := by
  have hi := (List.getElem?_eq_some_iff.1 ht).1
  have h0 := h
  obtain ⟨_, ⟨rfl, h1⟩ | ⟨g, cap, cur, rfl, hb, hg, _, _, _, _⟩⟩ := h
  · omega
  · refine ⟨g, cap, rfl, hb, (Array.getElem?_eq_some_iff.1 hg).1, fun j u hu => ?_, fun j => World.ownsRow.frozenAt h0 j, rfl⟩
    have hj : j < 3 := by have := (List.getElem?_eq_some_iff.1 hu).1; simpa [Tri.cells] using this
    rw [World.ownsRow.cellAt h0 (i * 3 + j) (by omega), flat3_get ts ht j hj]
    exact hu
end
section
variable {P : Program} {N : Nat} {Q : Exit → Fr → World → Prop} {l : Fr} {w : World} {ops : Array Oper} {K : Fr → World → Prop} {S : World → Prop}
variable {d : Nat} {ty : TypeId} {pos : String} {af : Array Edge} {g : Option (Nat × Bool)}
theorem SliceTy3.size {t e : TypeId} {z : Array Value} {bytes : Nat} (h : SliceTy3 P t e z bytes) : (sizeOf e).run P w = .ok 3 w := by
  have := h.info
  cases hi : P.info? e with
  | none => simp [hi] at this
  | some i => simp [hi] at this; simp [sizeOf, typeInfo, hi, this]
theorem o_len3 {t e : TypeId} {z : Array Value} {bytes : Nat} [h : SliceTy3 P t e z bytes] {x : Operand} {a : Option Addr} {n c : Nat}
    (hx : ev l x = some (.slice a n c)) (k : K ((d, .int .i64 n) :: l) w) (hg : wantedL ops l g = some true := by rfl) (hd : Nat.blt d N = true := by rfl) :
    OpW P N ops Q ⟨some d, .call { callee := .builtin .len, args := #[x], argTypes := #[t] }, ty, pos, af, g⟩ l w K :=
  OpW.val (fun fr ha => by simp [execOp, resolve, invoke, builtin, Builtin.len_, ha.ev hx, run_underlying h.und, goInt]) k hg hd
theorem run_indexAt3 {t e : TypeId} {z : Array Value} {bytes : Nat} [h : SliceTy3 P t e z bytes] {b o n c : Nat} {k : IntKind} {i : Int} (h0 : 0 ≤ i) (h1 : i < n) :
    (Instr.indexAt t (.slice (some ⟨b, o, none⟩) n c) (.int k i)).run P w = .ok (.pointer (some ⟨b, o + i.toNat * 3, none⟩)) w := by
  simp [Instr.indexAt, asIntOf, run_underlying h.und, h0, h1, h.size, Addr.add]
  try (intro e; omega)
theorem o_ix3 {t e : TypeId} {z : Array Value} {bytes : Nat} [SliceTy3 P t e z bytes] {x y : Operand} {b o n c : Nat} {kk : IntKind} {i : Int} (hx : ev l x = some (.slice (some ⟨b, o, none⟩) n c)) (hi : ev l y = some (.int kk i))
    (h0 : 0 ≤ i) (h1 : i < n) (k : K ((d, .pointer (some ⟨b, o + i.toNat * 3, none⟩)) :: l) w)
    (hg : wantedL ops l g = some true := by rfl) (hd : Nat.blt d N = true := by rfl) : OpW P N ops Q ⟨some d, .indexAddr t x y, ty, pos, af, g⟩ l w K :=
  OpW.val (fun fr ha => by simp [execOp, ha.ev hx, ha.ev hi, run_indexAt3 h0 h1]) k hg hd
theorem q_ix3 {t e : TypeId} {z : Array Value} {bytes : Nat} [SliceTy3 P t e z bytes] {x y : Operand} {b o n c : Nat} {kk : IntKind} {i : Int} (hx : ev l x = some (.slice (some ⟨b, o, none⟩) n c)) (hi : ev l y = some (.int kk i))
    (h0 : 0 ≤ i) (h1 : i < n) (hg : wantedL ops l g = some true := by rfl) (hd : Nat.blt d N = true := by rfl) : QW P N ops S ⟨some d, .indexAddr t x y, ty, pos, af, g⟩ l d (.pointer (some ⟨b, o + i.toNat * 3, none⟩)) :=
  QW.mk (fun fr ha _ _ => by simp [execOp, ha.ev hx, ha.ev hi, run_indexAt3 h0 h1]) hg hd
/-- A struct is read at a place. -/
theorem run_loadAt_cells {t : TypeId} {n : Nat} {z : Array Value} [h : StructTy P t n z] {a : Addr} {cs : List Value} (hn : cs.length = n) (hc : ∀ j u, cs[j]? = some u → w.cell? (a.add j) = some u) :
    (Instr.loadAt t (.pointer (some a))).run P w = .ok (.agg cs.toArray) w := by
  obtain ⟨fs, hu⟩ := h.und
  have hs := h.size
  have hl := run_loadCells_list (P := P) w a cs hc
  rw [hn] at hl
  cases hi : P.info? t with
  | none => simp [hi] at hs
  | some i =>
    simp [hi] at hs
    simp [Instr.loadAt, Instr.sureAddr, loadVar, isAgg, run_underlying hu, sizeOf, typeInfo, hi, hs, hl]
theorem o_load3 {t : TypeId} {z : Array Value} [h : StructTy P t 3 z] {x : Operand} {b o : Nat} {tr : Tri} (hx : ev l x = some (.pointer (some ⟨b, o, none⟩))) (hc : ∀ j u, tr.cells[j]? = some u → w.cell? ⟨b, o + j, none⟩ = some u)
    (k : K ((d, .agg tr.cells.toArray) :: l) w) (hg : wantedL ops l g = some true := by rfl) (hd : Nat.blt d N = true := by rfl) : OpW P N ops Q ⟨some d, .load t x, ty, pos, af, g⟩ l w K :=
  OpW.val (fun fr ha => by
    have hr := run_loadAt_cells (P := P) (w := w) (t := t) (a := ⟨b, o, none⟩) (cs := tr.cells) rfl (fun j u hu => by
      have e : (⟨b, o, none⟩ : Addr).add j = ⟨b, o + j, none⟩ := by unfold Addr.add; split <;> simp_all
      rw [e]; exact hc j u hu)
    simp [execOp, ha.ev hx, hr]) k hg hd
/-- An element, its place and what lies there. -/
theorem WL.ixload3 {t t2 e : TypeId} {z z2 : Array Value} {bytes : Nat} [SliceTy3 P t e z bytes] [StructTy P t2 3 z2] {x y : Operand} {kk : IntKind} {i : Int} {j : Nat} {d1 d2 lo : Nat} {e' : TypeId} {v : Value} {ts : List Tri} {tr : Tri} {ty1 ty2 : TypeId} {pos1 pos2 : String} {af1 af2 : Array Edge} {x2 : Operand} {rest : List Oper}
    (hs : Own3 lo e' w v ts) (ha : ts[j]? = some tr)
    (k : ∀ p, WL P N ops Q rest ((d2, .agg tr.cells.toArray) :: (d1, p) :: l) w) (hx : ev l x = some v := by rfl) (hy : ev l y = some (.int kk i) := by rfl) (hij : i = (j : Int) := by first | rfl | omega) (h2 : x2 = .tmp d1 := by rfl)
    (hd1 : Nat.blt d1 N = true := by rfl) (hd2 : Nat.blt d2 N = true := by rfl) :
    WL P N ops Q (⟨some d1, .indexAddr t x y, ty1, pos1, af1, none⟩ :: ⟨some d2, .load t2 x2, ty2, pos2, af2, none⟩ :: rest) l w := by
  subst h2
  obtain ⟨g, c, rfl, _, _, hcell, _, _⟩ := hs.place ha
  have hlt := (List.getElem?_eq_some_iff.1 ha).1
  subst hij
  refine WL.step (o_ix3 hx hy (by omega) (by omega) ?_ rfl hd1)
  rw [Nat.zero_add, Int.toNat_natCast]
  exact WL.step (o_load3 (look_cons_self _ _ _) hcell (k _) rfl hd2)
/-- A literal without an element. -/
theorem o_lit30 {t e : TypeId} {z : Array Value} {bytes : Nat} [h : SliceTy3 P t e z bytes]
    (k : ∀ v w1, Own3 w.heap.size e w1 v [] → Below w.heap.size w w1 → w1.heap.size = w.heap.size + 1 → K ((d, v) :: l) w1)
    (hg : wantedL ops l g = some true := by rfl) (hd : Nat.blt d N = true := by rfl) : OpW P N ops Q ⟨some d, .buildSlice t 0 #[], ty, pos, af, g⟩ l w K := by
  refine OpW.val (v := .slice (some ⟨w.heap.size, 0, none⟩) 0 0) (w' := w.alloc (.cells #[] e)) (fun fr ha => ?_) (k _ _ ?_ (below_alloc _ _) (by simp)) hg hd
  · have hs := h.size (w := w)
    have hi := h.info
    cases hi2 : P.info? e with
    | none => simp [hi2] at hi
    | some i =>
      simp [hi2] at hi
      simp [execOp, Instr.buildSlice, run_underlying h.und, sizeOf, typeInfo, hi2, hi, newRow, Instr.fill]
      rw [show (Array.map (fun _ => (default : Value)) (Array.range 0)) = #[] from Array.eq_empty_of_size_eq_zero (by simp)]
  · exact World.ownsRow_lit (base := w.heap.size) (e := e) (size := 3) w #[] 0 (Nat.le_refl _) (Nat.zero_le _) (by simp)
/-- A literal with one element. -/
theorem o_lit31 {t e : TypeId} {z : Array Value} {bytes : Nat} [h : SliceTy3 P t e z bytes] {x : Operand} {tr : Tri} (hx : ev l x = some (.agg tr.cells.toArray))
    (k : ∀ v w1, Own3 w.heap.size e w1 v [tr] → Below w.heap.size w w1 → w1.heap.size = w.heap.size + 1 → K ((d, v) :: l) w1)
    (hg : wantedL ops l g = some true := by rfl) (hd : Nat.blt d N = true := by rfl) : OpW P N ops Q ⟨some d, .buildSlice t 1 #[(0, x)], ty, pos, af, g⟩ l w K := by
  refine OpW.val (v := .slice (some ⟨w.heap.size, 0, none⟩) 1 1) (w' := w.alloc (.cells tr.cells.toArray e)) (fun fr ha => ?_) (k _ _ ?_ (below_alloc _ _) (by simp)) hg hd
  · have hi := h.info
    obtain ⟨za, zb, zc, hz⟩ := h.three
    cases hi2 : P.info? e with
    | none => simp [hi2] at hi
    | some i =>
      simp [hi2] at hi
      have hr : (Array.range 3).map (fun x => z[x % z.size]!) = #[za, zb, zc] := by
        subst hz
        rw [show Array.range 3 = #[0, 1, 2] from by decide]
        simp
      simp [execOp, ha.ev hx, Instr.buildSlice, run_underlying h.und, sizeOf, zeroValue, typeInfo, hi2, hi, newRow, Instr.fill, Value.cells, hr, Tri.cells]
  · exact World.ownsRow_lit (base := w.heap.size) (e := e) (size := 3) w tr.cells.toArray 1 (Nat.le_refl _) (by unfold maxLen; omega) (by simp [Tri.cells])
/-- append(s, x), x one struct: the literal and the append. -/
theorem o_append31 {t e : TypeId} {z : Array Value} {bytes : Nat} [h : SliceTy3 P t e z bytes] {lo d1 d2 : Nat} {s x y : Operand} {v : Value} {tr : Tri} {ts : List Tri} {rest : List Oper} {ty1 ty2 : TypeId} {pos1 pos2 : String} {af1 af2 : Array Edge}
    (hs : ∀ u', ev ((d1, u') :: l) s = some v) (hx : ev l x = some (.agg tr.cells.toArray)) (hown : Own3 lo e w v ts) (h1 : tr.one)
    (hm : ts.length + 1 ≤ maxLen) (hb : (ts.length + 1) * bytes ≤ 140737488355328) (hlo : lo ≤ w.heap.size)
    (k : ∀ p v' w', Own3 lo e w' v' (ts ++ [tr]) → Below lo w w' → (∀ k, k < w.heap.size → v.ownBlock ≠ some k → w'.heap[k]? = w.heap[k]?) → w.heap.size < w'.heap.size → WL P N ops Q rest ((d2, v') :: (d1, p) :: l) w') (hy : y = .tmp d1 := by rfl)
    (hd1 : Nat.blt d1 N = true := by rfl) (hd2 : Nat.blt d2 N = true := by rfl) :
    WL P N ops Q (⟨some d1, .buildSlice t 1 #[(0, x)], ty1, pos1, af1, none⟩ :: ⟨some d2, .call { callee := .builtin .append, args := #[s, y], argTypes := #[t, t] }, ty2, pos2, af2, none⟩ :: rest) l w := by
  subst hy
  refine WL.step (o_lit31 hx ?_ rfl hd1)
  intro v1 w1 hown1 hbl1 hz1
  have hp := hown1.place (i := 0) (t := tr) rfl
  obtain ⟨g1, c1, hv1, _, _, hcell1, _, _⟩ := hp
  have hn1 : [tr].length = 1 := rfl
  rw [hn1] at hv1
  have hownA := hown.below hbl1 (Nat.le_refl _)
  have hi := h.info
  obtain ⟨za, zb, zc, hz⟩ := h.three
  cases hi2 : P.info? e with
  | none => simp [hi2] at hi
  | some i =>
    simp [hi2] at hi
    obtain ⟨v', w', hr, h2, h3, h4⟩ := run_append_own (P := P) w1 lo t ty2 e i (.agg z) 3 bytes h.und hi2 hi.1 hi.2.1 hi.2.2 (by subst hz; rfl) (by decide) v ts.length (flat3 ts) hownA ⟨g1, 0, none⟩ 1 c1 tr.cells rfl (fun j u hu => by
      have e1 : (⟨g1, 0, none⟩ : Addr).add j = ⟨g1, j, none⟩ := by unfold Addr.add; split <;> simp_all
      rw [e1]
      have := hcell1 j u hu
      simpa using this) (fun u hu => by
        unfold Tri.cells at hu
        simp only [List.mem_cons, List.not_mem_nil, or_false] at hu
        rcases hu with rfl | rfl | rfl
        · exact h1.1
        · exact h1.2.1
        · exact h1.2.2) hm hb (by omega)
    refine WL.step (OpW.val (w' := w') (v := v') (fun fr ha => ?_) ?_ rfl hd2)
    · have hs' := ha.ev (hs v1)
      have hy' : fr.eval (.tmp d1) = v1 := ha.ev (look_cons_self _ _ _)
      rw [hv1] at hy'
      simp [execOp, resolve, invoke, builtin, hs', hy', hr]
    · have hgs := h3.size
      refine k _ _ _ ?_ (Below.trans (Below.mono hbl1 (by omega)) (grown_below h3 (by omega) fun k hk => (hown.block k hk).1)) (fun k hk hne => by rw [h3.block k (by omega) (fun e => hne e.symm)]; exact hbl1.block k hk) (by omega)
      unfold Own3
      rw [flat3_append, List.length_append]
      simpa [flat3] using h2
end
end Go.Fw
/- Elements of slices of structs of three cells: written whole, and one cell of them. -/
namespace Go.Fw
open Go Go.RowKit
def Tri.put (t : Tri) : Nat → Value → Tri
  | 0, u => (u, t.2.1, t.2.2)
  | 1, u => (t.1, u, t.2.2)
  | _, u => (t.1, t.2.1, u)
theorem Tri.put_cells (t : Tri) {j : Nat} (h : j < 3) (u : Value) : (t.put j u).cells = t.cells.set j u := by
  match j, h with
  | 0, _ => rfl
  | 1, _ => rfl
  | 2, _ => rfl
theorem flat3_set : ∀ (ts : List Tri) {i : Nat} {t : Tri}, ts[i]? = some t → ∀ j, j < 3 → ∀ u, (flat3 ts).set (i * 3 + j) u = flat3 (ts.set i (t.put j u))
  | [], i, t, h, _, _, _ => by simp at h
  | s :: ts, 0, t, h, j, hj, u => by
    simp at h; subst h
    rw [flat3_cons, List.set_append_left _ _ (by simp [Tri.cells]; omega), List.set_cons_zero, flat3_cons, Tri.put_cells _ hj, Nat.zero_mul, Nat.zero_add]
  | s :: ts, i + 1, t, h, j, hj, u => by
    rw [flat3_cons, List.set_append_right _ _ (by simp [Tri.cells]; omega)]
    rw [show (i + 1) * 3 + j - (Tri.cells s).length = i * 3 + j from by simp [Tri.cells]; omega]
    rw [flat3_set ts (by simpa using h) j hj u, List.set_cons_succ, flat3_cons]
theorem Own3.setCell {lo : Nat} {e : TypeId} {w : World} {g n c i j : Nat} {ts : List Tri} {t : Tri} (h : Own3 lo e w (.slice (some ⟨g, 0, none⟩) n c) ts) (ht : ts[i]? = some t) (hj : j < 3) (u : Value) :
    Own3 lo e (w.setCell ⟨g, i * 3 + j, none⟩ u) (.slice (some ⟨g, 0, none⟩) n c) (ts.set i (t.put j u)) := by
  obtain ⟨a, c', hv, _⟩ := h.shape
  simp only [Value.slice.injEq] at hv
  obtain ⟨_, rfl, rfl⟩ := hv
  have := (World.ownsRow.stored h (i * 3 + j) u).1
  unfold Own3
  rw [List.length_set, ← flat3_set ts ht j hj u]
  exact this
section
variable {P : Program} {N : Nat} {Q : Exit → Fr → World → Prop} {l : Fr} {w : World} {ops : Array Oper} {K : Fr → World → Prop} {S : World → Prop}
variable {d : Nat} {ty : TypeId} {pos : String} {af : Array Edge} {g : Option (Nat × Bool)}
/-- x[i] = u, the whole element, at its place. -/
theorem o_store3 {t : TypeId} {z : Array Value} [h : StructTy P t 3 z] {x y : Operand} {g0 n c i lo : Nat} {e : TypeId} {ts : List Tri} {old tr : Tri} (hx : ev l x = some (.pointer (some ⟨g0, i * 3, none⟩))) (hy : ev l y = some (.agg tr.cells.toArray)) (hown : Own3 lo e w (.slice (some ⟨g0, 0, none⟩) n c) ts) (ho : ts[i]? = some old) (h1 : tr.one)
    (k : ∀ w1, Own3 lo e w1 (.slice (some ⟨g0, 0, none⟩) n c) (ts.set i tr) → But g0 w w1 → K l w1)
    (hg : wantedL ops l g = some true := by rfl) : OpW P N ops Q ⟨none, .store t x y, ty, pos, af, g⟩ l w K := by
  have hil := (List.getElem?_eq_some_iff.1 ho).1
  have o1 := hown.setCell ho (j := 0) (by omega) tr.1
  have s1 : (ts.set i (old.put 0 tr.1))[i]? = some (old.put 0 tr.1) := List.getElem?_set_self hil
  have o2 := o1.setCell s1 (j := 1) (by omega) tr.2.1
  have s2 : ((ts.set i (old.put 0 tr.1)).set i ((old.put 0 tr.1).put 1 tr.2.1))[i]? = some ((old.put 0 tr.1).put 1 tr.2.1) := List.getElem?_set_self (by rw [List.length_set]; exact hil)
  have o3 := o2.setCell s2 (j := 2) (by omega) tr.2.2
  have e3 : ((ts.set i (old.put 0 tr.1)).set i ((old.put 0 tr.1).put 1 tr.2.1)).set i (((old.put 0 tr.1).put 1 tr.2.1).put 2 tr.2.2) = ts.set i tr := by
    rw [List.set_set, List.set_set]; rfl
  rw [e3] at o3
  obtain ⟨ga, ca, hva, _, _, c0, f0, _⟩ := hown.place ho
  obtain ⟨gb, cb, hvb, _, _, c1, f1, _⟩ := o1.place s1
  obtain ⟨gc, cc, hvc, _, _, c2, f2, _⟩ := o2.place s2
  simp only [Value.slice.injEq, Option.some.injEq, Addr.mk.injEq] at hva hvb hvc
  obtain ⟨⟨rfl, _⟩, _, _⟩ := hva
  obtain ⟨⟨rfl, _⟩, _, _⟩ := hvb
  obtain ⟨⟨rfl, _⟩, _, _⟩ := hvc
  refine OpW.unit (w' := ((w.setCell ⟨g0, i * 3 + 0, none⟩ tr.1).setCell ⟨g0, i * 3 + 1, none⟩ tr.2.1).setCell ⟨g0, i * 3 + 2, none⟩ tr.2.2) (fun fr ha => ?_) (k _ o3 (((But.setCell _ _ _ _).trans (But.setCell _ _ _ _)).trans (But.setCell _ _ _ _))) hg
  have ea : ∀ j, (⟨g0, i * 3, none⟩ : Addr).add j = ⟨g0, i * 3 + j, none⟩ := fun j => by unfold Addr.add; split <;> simp_all
  have q0 := c0 0 _ rfl
  have q1 := c1 1 _ rfl
  have q2 := c2 2 _ rfl
  have hs := h.size
  cases hi : P.info? t with
  | none => simp [hi] at hs
  | some inf =>
    simp [hi] at hs
    have r0 := run_store P w ⟨g0, i * 3 + 0, none⟩ tr.1 .plain h1.1
    have r1 := run_store P (w.setCell ⟨g0, i * 3 + 0, none⟩ tr.1) ⟨g0, i * 3 + 1, none⟩ tr.2.1 .plain h1.2.1
    have r2 := run_store P ((w.setCell ⟨g0, i * 3 + 0, none⟩ tr.1).setCell ⟨g0, i * 3 + 1, none⟩ tr.2.1) ⟨g0, i * 3 + 2, none⟩ tr.2.2 .plain h1.2.2
    simp only [q0, f0] at r0
    simp only [q1, f1] at r1
    simp only [q2, f2] at r2
    simp [execOp, ha.ev hx, ha.ev hy, Instr.storeAt, Instr.sureAddr, storeVar, sizeOf, typeInfo, hi, hs, Value.cells, Tri.cells, storeCells, ea]
    simp only [Nat.add_zero] at r0 r1 r2
    simp [r0, r1, r2]
end
end Go.Fw
