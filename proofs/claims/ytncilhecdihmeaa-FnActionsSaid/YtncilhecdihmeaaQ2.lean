/- One tree cut off above a node, the program's: cutAbove, CountCutsTo. -/
import Derived.Test.YtncilhecdihmeaaQ1
import Derived.Test.YtncilhecdihmeaaH7
set_option maxRecDepth 8000
namespace Go.Fw
open Go Go.RowKit
section
variable {P : Program} {N : Nat} {Q : Exit → Fr → World → Prop} {S : World → Prop} {l : Fr} {w : World} {ops : Array Oper} {K : Fr → World → Prop}
variable {d : Nat} {ty : TypeId} {pos : String} {af : Array Edge} {g : Option (Nat × Bool)}
theorem run_sliceLH {t e : TypeId} {z : Value} {bytes : Nat} [h : SliceTy P t e z bytes] {a : Option Addr} {n c i j : Nat} {k1 k2 : IntKind} (hi : i ≤ j) (hj : j ≤ c) :
    (Instr.sliceAt t (.slice a n c) (some (.int k1 (i : Nat))) (some (.int k2 (j : Nat))) none).run P w = .ok (.slice (lowAddr a c i) (j - i) (c - i)) w := by
  have he : P.elem t = e := by have := h.und; simp [Program.elem, this]
  have hu : P.underlying t = some (.slice (P.elem t)) := by rw [he]; exact h.und
  rw [run_sliceAt_slice w t _ _ _ _ hu, run_slice_lh w t a n c hu k1 k2 (i : Nat) (j : Nat) (by omega) (by omega) (by omega), he, h.size]
  simp [sliced, lowAddr]
/-- x[i:j]. -/
theorem o_sliceLH {t e : TypeId} {z : Value} {bytes : Nat} [SliceTy P t e z bytes] {x y u : Operand} {a : Option Addr} {n c i j : Nat} {k1 k2 : IntKind} (hx : ev l x = some (.slice a n c)) (hy : ev l y = some (.int k1 (i : Nat))) (hu : ev l u = some (.int k2 (j : Nat))) (hi : i ≤ j) (hj : j ≤ c)
    (k : K ((d, .slice (lowAddr a c i) (j - i) (c - i)) :: l) w) (hg : wantedL ops l g = some true := by rfl) (hd : Nat.blt d N = true := by rfl) : OpW P N ops Q ⟨some d, .slice t x (some y) (some u) none, ty, pos, af, g⟩ l w K :=
  OpW.val (fun fr ha => by simp [execOp, ha.ev hx, ha.ev hy, ha.ev hu, run_sliceLH (P := P) (t := t) hi hj]) k hg hd
end
section
variable {P : Program} {N : Nat} {Q : Exit → Fr → World → Prop} {l : Fr} {w : World}
theorem WP.midB3 {c : Code} {id : Nat} {K : Fr → World → Prop} (M : Fr → World → Prop) (hx : WP P N c (inBlockE id (thenE M Q)) l w) (hk : ∀ l w, M l w → K l w) : WP P N c (inBlockE id (thenE K Q)) l w := fun a ha => by
  refine wp_mono (hx a ha) ?_
  intro e a' w' he
  cases e with
  | normal => obtain ⟨l', hl, hK⟩ := he; exact ⟨l', hl, hk _ _ hK⟩
  | exit id' =>
    obtain ⟨l', hl, hK⟩ := he
    simp only [inBlockE] at hK
    refine ⟨l', hl, ?_⟩
    simp only [inBlockE]
    split
    · rename_i e; rw [if_pos e] at hK; exact hk _ _ hK
    · rename_i e; rw [if_neg e] at hK; exact hK
  | goto n => exact he
  | ret => exact he
  | panic c => exact he
  | outgrown => exact he
end
end Go.Fw
namespace Go.Proofs
open Go Go.Fw Go.RowKit Go.Rk
theorem areLevels1_any {lo hi : Nat} {w : World} {v : Value} {t : List Int} (h : IS lo hi w v t) : Does Try.prog 62 [v] w fun r w' => r = .bool (!isLev t) ∧ Still w w' := by
  refine Does.enter Try.func62 Try.ntmps62 rfl (by rfl) ?_
  repeat' (first|refine X.O ?_|refine X.A ?_|refine X.B ?_|refine X.C ?_|refine X.D ?_|refine X.E ?_|refine X.F ?_|refine X.G ?_|refine X.H ?_|refine X.I ?_|fail)
  refine WL.call (IsLevels_any h) ?_
  rintro _ w1 ⟨rfl, hs1⟩
  repeat' (first|refine X.O ?_|refine X.A ?_|refine X.B ?_|refine X.C ?_|refine X.D ?_|refine X.E ?_|refine X.F ?_|refine X.G ?_|refine X.H ?_|refine X.I ?_|fail)
  refine ⟨_, ret1 rfl (by rfl), ?_⟩
  exact ⟨rfl, hs1⟩
theorem areLevels_any {lo hi : Nat} {w : World} {v : Value} {xss : List (List Int)} (h : ISS lo hi w v xss) : Does Try.prog 46 [v] w fun r w' => r = .bool (!(xss.any fun t => !isLev t)) ∧ Still w w' := by
  refine Does.enter Try.func46 Try.ntmps46 rfl (by rfl) ?_
  repeat' (first|refine X.O ?_|refine X.A ?_|refine X.B ?_|refine X.C ?_|refine X.D ?_|refine X.E ?_|refine X.F ?_|refine X.G ?_|refine X.H ?_|refine X.I ?_|fail)
  refine WL.call (ContainsFunc_rows (f := 62) (cap := []) (fun t => !isLev t) h (fun xs _ u w' _ hu => areLevels1_any hu)) ?_
  rintro _ w1 ⟨rfl, hs1⟩
  repeat' (first|refine X.O ?_|refine X.A ?_|refine X.B ?_|refine X.C ?_|refine X.D ?_|refine X.E ?_|refine X.F ?_|refine X.G ?_|refine X.H ?_|refine X.I ?_|fail)
  refine ⟨_, ret1 rfl (by rfl), ?_⟩
  exact ⟨rfl, hs1⟩
set_option maxHeartbeats 1000000 in
theorem cutAbove_any {lo hi : Nat} {w : World} {v : Value} {t : List Int} {n : Nat} (h : IS lo hi w v t) (hn : n < t.length) (ht : t.length ≤ 6) (hbd : ∀ x ∈ t, 0 ≤ x ∧ x ≤ 100)
    (h1 : Lv (restA t n)) (h2 : Lv (brA t n)) (h3 : (restA t n).length ≤ 8) (h4 : (brA t n).length ≤ 8) :
    Does Try.prog 47 [v, .int .i64 (n : Nat)] w fun r w' => ∃ va vb, r = .tuple #[va, vb] ∧ RD w' va (cutA t n).1 ∧ RD w' vb (cutA t n).2 ∧ Below w.heap.size w w' := by
  obtain ⟨a, c, hv⟩ := h.shape
  subst hv
  obtain ⟨_, _, hcv, hcc⟩ := h.shapeC
  simp only [Value.slice.injEq] at hcv
  obtain ⟨_, _, rfl⟩ := hcv
  have hz := h.hi_le
  have hed := endA_bd hn
  have hxn := hbd _ (List.getElem_mem hn)
  obtain ⟨E, hE⟩ : ∃ E, endA t n = E := ⟨_, rfl⟩
  have hEe : endGo t t[n] t.length (n + 1) = E := by rw [← hE]; unfold endA; rw [getDAt hn]
  rw [hE] at hed
  refine Does.enter Try.func47 Try.ntmps47 rfl (by rfl) ?_
  repeat' (first|refine X.O ?_|refine X.A ?_|refine X.B ?_|refine X.C ?_|refine X.D ?_|refine X.E ?_|refine X.F ?_|refine X.G ?_|refine X.H ?_|refine X.I ?_|fail)
  refine WP.midB3 (fun l' x => Agree l' [(0, .slice a t.length c), (1, .int .i64 (n : Nat)), (6, .int .i64 (E : Nat))] ∧ Still w x) ?_ ?_
  · refine WP.loop (fun (e : Nat) => [(0, .slice a t.length c), (1, .int .i64 (n : Nat)), (6, .int .i64 (e : Nat))])
      (fun e w2 => n + 1 ≤ e ∧ e ≤ t.length ∧ (∃ f, endGo t t[n] f e = E ∧ t.length ≤ f + e) ∧ Still w w2)
      (fun e => t.length - e) (n + 1) ⟨rfl, rfl, X.T (by omega), trivial⟩ ⟨by omega, by omega, ⟨t.length, hEe, by omega⟩, Still.refl _⟩ ?_
    rintro e w2 ⟨he1, he2, ⟨f, hf, hfl⟩, hs2⟩
    have hz2 := hs2.size
    have stop : ¬ (e < t.length ∧ t[n] < t.getD e 0) → e = E := fun hno => by rw [← hf, endGo_stop hno]
    repeat' (first|refine X.O ?_|refine X.A ?_|refine X.B ?_|refine X.C ?_|refine X.D ?_|refine X.E ?_|refine X.F ?_|refine X.G ?_|refine X.H ?_|refine X.I ?_|fail)
    refine WP.drawn (fun w' => w'.heap = w2.heap) [(0, true), (1, true), (2, true), (3, true), (4, true), (5, true), (6, true), (7, true), (8, true), (9, true), (10, true), (11, true), (12, true), (13, true), (14, true)] (by kernel_rfl) mixed ?_
    intro w3 hs3
    have hw3 : w3.heap = w2.heap := hs3.heap
    have hs23 := hs2.trans hs3
    repeat' (first|refine X.U rfl ?_|refine X.V rfl ?_|refine X.W rfl ?_|refine X.Y rfl ?_|refine X.Z rfl ?_|refine WS.nil ?_|fail)
    refine WS.splitD (t := 16) (by rfl) (fun hlt => ?_) (fun hge => ?_)
    · have hle : e < t.length := by omega
      have hge : t.getD e 0 = t[e] := getDAt hle
      repeat' (first|refine X.U rfl ?_|refine X.V rfl ?_|refine X.W rfl ?_|refine X.Y rfl ?_|refine X.Z rfl ?_|refine WS.nil ?_|fail)
      refine WS.ixload (j := e) rfl rfl (h.still RI.stable hs23) (List.getElem?_eq_getElem hle) (fun w' hw' => same_heap (hw'.trans hw3.symm)) hw3 ?_
      rintro p1 _ rfl
      repeat' (first|refine X.U rfl ?_|refine X.V rfl ?_|refine X.W rfl ?_|refine X.Y rfl ?_|refine X.Z rfl ?_|refine WS.nil ?_|fail)
      refine WS.ixload (j := n) rfl rfl (h.still RI.stable hs23) (List.getElem?_eq_getElem hn) (fun w' hw' => same_heap (hw'.trans hw3.symm)) hw3 ?_
      rintro p2 _ rfl
      repeat' (first|refine X.U rfl ?_|refine X.V rfl ?_|refine X.W rfl ?_|refine X.Y rfl ?_|refine X.Z rfl ?_|refine WS.nil ?_|fail)
      repeat' (first|refine X.O ?_|refine X.A ?_|refine X.B ?_|refine X.C ?_|refine X.D ?_|refine X.E ?_|refine X.F ?_|refine X.G ?_|refine X.H ?_|refine X.I ?_|fail)
      first|refine X.J (fun _ => ?_) (fun _ => ?_)|refine X.L (fun _ => ?_) (fun _ => ?_)|refine X.M (fun _ => ?_) (fun _ => ?_)|refine X.R (fun _ => ?_) (fun _ => ?_)|fail
      · rename_i hgt
        repeat' (first|refine X.O ?_|refine X.A ?_|refine X.B ?_|refine X.C ?_|refine X.D ?_|refine X.E ?_|refine X.F ?_|refine X.G ?_|refine X.H ?_|refine X.I ?_|fail)
        refine ⟨e + 1, ⟨rfl, rfl, (by first|rfl|exact X.T (by omega)), trivial⟩, ⟨by omega, by omega, ?_, hs23⟩, by omega⟩
        cases f with
        | zero => omega
        | succ f => exact ⟨f, by rw [← hf, endGo_step ⟨hle, by omega⟩], by omega⟩
      · rename_i hgt
        have := stop (by omega)
        subst this
        repeat' (first|refine X.O ?_|refine X.A ?_|refine X.B ?_|refine X.C ?_|refine X.D ?_|refine X.E ?_|refine X.F ?_|refine X.G ?_|refine X.H ?_|refine X.I ?_|fail)
        exact ⟨⟨rfl, rfl, rfl, trivial⟩, hs23⟩
    · have := stop (by omega)
      subst this
      repeat' (first|refine X.U rfl ?_|refine X.V rfl ?_|refine X.W rfl ?_|refine X.Y rfl ?_|refine X.Z rfl ?_|refine WS.nil ?_|fail)
      repeat' (first|refine X.O ?_|refine X.A ?_|refine X.B ?_|refine X.C ?_|refine X.D ?_|refine X.E ?_|refine X.F ?_|refine X.G ?_|refine X.H ?_|refine X.I ?_|fail)
      exact ⟨⟨rfl, rfl, rfl, trivial⟩, hs23⟩
  · rintro l' w2 ⟨hag, hs2⟩
    refine WP.frame _ hag ?_
    clear hag
    have hz2 := hs2.size
    have hbl02 := hs2.below w.heap.size
    repeat' (first|refine X.O ?_|refine X.A ?_|refine X.B ?_|refine X.C ?_|refine X.D ?_|refine X.E ?_|refine X.F ?_|refine X.G ?_|refine X.H ?_|refine X.I ?_|fail)
    refine WL.step (o_lit (us := []) (by rfl) (by rfl) rfl (by decide) one0 ?_)
    intro v3 w3 hown3 hbl3 hz3 _
    have h3w := (h.still RI.stable hs2).below RI.stable hbl3 (by omega)
    have hbl03 : Below w.heap.size w w3 := hbl02.trans (Below.mono hbl3 (by omega))
    repeat' (first|refine X.O ?_|refine X.A ?_|refine X.B ?_|refine X.C ?_|refine X.D ?_|refine X.E ?_|refine X.F ?_|refine X.G ?_|refine X.H ?_|refine X.I ?_|fail)
    refine WL.step (o_sliceLH (i := n) (j := E) (by rfl) (by rfl) (by rfl) (by omega) (by omega) ?_)
    have hS := (h3w.take (i := E) (by omega)).drop (i := n) (by rw [List.length_take]; omega)
    obtain ⟨B, hB⟩ : ∃ B, (t.take E).drop n = B := ⟨_, rfl⟩
    have hBl : B.length = E - n := by rw [← hB, List.length_drop, List.length_take]; omega
    rw [hB] at hS
    have hbr : brA t n = B.map fun x => x - t[n] := by rw [← hB, ← hE]; unfold brA; rw [getDAt hn]
    have hBb : ∀ x ∈ B, 0 ≤ x ∧ x ≤ 100 := fun x hx => by rw [← hB] at hx; exact hbd x (List.mem_of_mem_take (List.mem_of_mem_drop hx))
    rw [hbr] at h2 h4
    have hc1 : (cutA t n).1 = canonI 8 (restA t n) := rfl
    have hc2 : (cutA t n).2 = canonI 8 (B.map fun x => x - t[n]) := by rw [← hbr]; rfl
    rw [hc1, hc2]
    repeat' (first|refine X.O ?_|refine X.A ?_|refine X.B ?_|refine X.C ?_|refine X.D ?_|refine X.E ?_|refine X.F ?_|refine X.G ?_|refine X.H ?_|refine X.I ?_|fail)
    refine WP.loop (fun (s : Nat × Value) => [(0, .slice a t.length c), (1, .int .i64 (n : Nat)), (6, .int .i64 (E : Nat)), (7, s.2), (33, .slice (lowAddr a c n) (E - n) (c - n)), (34, .int .i64 ((E - n : Nat) : Int)), (35, .int .i64 (s.1 : Nat))])
      (fun s w4 => s.1 ≤ B.length ∧ Own w2.heap.size 2 w4 s.2 (Ints ((B.take s.1).map fun x => x - t[n])) ∧ Below w2.heap.size w2 w4)
      (fun s => B.length - s.1) (0, v3) ⟨rfl, rfl, rfl, rfl, rfl, rfl, rfl, trivial⟩ ⟨by dsimp only; omega, hown3, hbl3⟩ ?_
    rintro ⟨j, vo⟩ w4 ⟨hj1, hown4, hbl4⟩
    dsimp only at hj1 hown4 ⊢
    have hz4 := hbl4.size
    have hbl24 := hbl4
    have hbl04 : Below w.heap.size w w4 := hbl02.trans (Below.mono hbl4 (by omega))
    have h4w := h.below RI.stable hbl04 hz
    have hS4 : IS lo hi w4 (.slice (lowAddr a c n) (E - n) (c - n)) B := by
      have := (h4w.take (i := E) (by omega)).drop (i := n) (by rw [List.length_take]; omega)
      rw [hB] at this
      exact this
    repeat' (first|refine X.O ?_|refine X.A ?_|refine X.B ?_|refine X.C ?_|refine X.D ?_|refine X.E ?_|refine X.F ?_|refine X.G ?_|refine X.H ?_|refine X.I ?_|fail)
    first|refine X.J (fun _ => ?_) (fun _ => ?_)|refine X.L (fun _ => ?_) (fun _ => ?_)|refine X.M (fun _ => ?_) (fun _ => ?_)|refine X.R (fun _ => ?_) (fun _ => ?_)|fail
    · rename_i hlt
      have hlj : j < B.length := by omega
      have hbj := hBb _ (List.getElem_mem hlj)
      repeat' (first|refine X.O ?_|refine X.A ?_|refine X.B ?_|refine X.C ?_|refine X.D ?_|refine X.E ?_|refine X.F ?_|refine X.G ?_|refine X.H ?_|refine X.I ?_|fail)
      refine WL.ixload (j := j) hS4 (List.getElem?_eq_getElem hlj) ?_
      rintro p1 _ rfl
      repeat' (first|refine X.O ?_|refine X.A ?_|refine X.B ?_|refine X.C ?_|refine X.D ?_|refine X.E ?_|refine X.F ?_|refine X.G ?_|refine X.H ?_|refine X.I ?_|fail)
      refine WL.ixload (j := n) h4w (List.getElem?_eq_getElem hn) ?_
      rintro p2 _ rfl
      repeat' (first|refine X.O ?_|refine X.A ?_|refine X.B ?_|refine X.C ?_|refine X.D ?_|refine X.E ?_|refine X.F ?_|refine X.G ?_|refine X.H ?_|refine X.I ?_|fail)
      refine o_append1 (u := .int .i64 (B[j] - t[n])) (fun _ => by rfl) (by rfl) hown4 rfl (by rw [Ints_length, List.length_map, List.length_take]; unfold maxLen; omega) (by rw [Ints_length, List.length_map, List.length_take]; omega) (by omega) ?_
      intro p3 v5 w5 hown5 hbl5 _ hz5 _
      repeat' (first|refine X.O ?_|refine X.A ?_|refine X.B ?_|refine X.C ?_|refine X.D ?_|refine X.E ?_|refine X.F ?_|refine X.G ?_|refine X.H ?_|refine X.I ?_|fail)
      refine ⟨(j + 1, v5), ⟨rfl, rfl, rfl, rfl, rfl, rfl, (by first|rfl|exact X.T (by omega)), trivial⟩, ⟨by dsimp only; omega, ?_, hbl4.trans hbl5⟩, by dsimp only; omega⟩
      dsimp only
      rw [List.take_succ_eq_append_getElem hlj, List.map_append, Ints_append]
      exact hown5
    · rename_i hge
      have hje : j = B.length := by omega
      subst hje
      rw [List.take_length] at hown4
      repeat' (first|refine X.O ?_|refine X.A ?_|refine X.B ?_|refine X.C ?_|refine X.D ?_|refine X.E ?_|refine X.F ?_|refine X.G ?_|refine X.H ?_|refine X.I ?_|fail)
      refine WP.drawn (fun w' => Below w4.heap.size w4 w') [(0, true), (1, true), (2, true), (3, true), (4, true), (5, true), (9, true), (6, false), (7, false), (8, false), (10, false), (11, true), (12, true)] (by kernel_rfl) mixed ?_
      intro w5 hs5
      have hz5 := hs5.size
      have hS5 : Below w4.heap.size w4 w5 := hs5.below _
      have h5w := h4w.still RI.stable hs5
      repeat' (first|refine X.U rfl ?_|refine X.V rfl ?_|refine X.W rfl ?_|refine X.Y rfl ?_|refine X.Z rfl ?_|refine WS.nil ?_|fail)
      refine WS.q rfl (q_sliceH (i := n) (by rfl) (by rfl) (by omega)) hS5 ?_
      repeat' (first|refine X.U rfl ?_|refine X.V rfl ?_|refine X.W rfl ?_|refine X.Y rfl ?_|refine X.Z rfl ?_|refine WS.nil ?_|fail)
      refine WS.q rfl (q_sliceL (i := E) (by rfl) (by rfl) (by omega)) hS5 ?_
      repeat' (first|refine X.U rfl ?_|refine X.V rfl ?_|refine X.W rfl ?_|refine X.Y rfl ?_|refine X.Z rfl ?_|refine WS.nil ?_|fail)
      refine WS.op rfl (o_lit (us := [.slice a n c, .slice (lowAddr a c E) (t.length - E) (c - E)]) (by rfl) (by rfl) rfl (by decide) (fun u hu => by
        simp only [List.mem_cons, List.not_mem_nil, or_false] at hu
        rcases hu with rfl | rfl <;> rfl) ?_)
      intro v6 w6 hown6 hbl6 hz6 _
      have hS6 : Below w4.heap.size w4 w6 := hS5.trans (Below.mono hbl6 (by omega))
      refine ⟨hS6, ?_⟩
      have h6w := h5w.below RI.stable hbl6 (by omega)
      have hL : ISS 0 w6.heap.size w6 v6 [t.take n, t.drop E] := hown6.toSL rfl (Nat.zero_le _) (fun k hk => (hown6.block k hk).2) (Nat.le_refl _) (fun i u x hu hx => by
        match i, hu, hx with
        | 0, hu, hx => simp at hu hx; subst hu hx; exact (h6w.take (i := n) (by omega)).wide RI.stable (Nat.zero_le _) h6w.hi_le (Nat.le_refl _)
        | 1, hu, hx => simp at hu hx; subst hu hx; exact (h6w.drop (i := E) (by omega)).wide RI.stable (Nat.zero_le _) h6w.hi_le (Nat.le_refl _))
      have hfl : [t.take n, t.drop E].flatten = restA t n := by rw [← hE]; simp [restA]
      refine WS.call rfl (Concat_any hL (by simp [cntSS]; omega) (by simp)) ?_
      intro v7 w7 hN7
      rw [hfl] at hN7
      have hz7 := hN7.2.size
      have hS7 := hS6.trans (Below.mono hN7.2 (by omega))
      refine ⟨hS7, ?_⟩
      refine WS.call rfl (canonical_any 8 (by omega) (hN7.1.toIS (Nat.zero_le _)) h1 h3) ?_
      intro v8 w8 hN8
      have hz8 := hN8.2.size
      have hS8 := hS7.trans (Below.mono hN8.2 (by omega))
      refine ⟨hS8, ?_⟩
      refine WS.call rfl (canonical_any 8 (by omega) ((hown4.below hS8 (Nat.le_refl _)).toIS (Nat.zero_le _)) h2 h4) ?_
      intro v9 w9 hN9
      have hS9 := hS8.trans (Below.mono hN9.2 (by omega))
      refine ⟨hS9, ?_⟩
      repeat' (first|refine X.U rfl ?_|refine X.V rfl ?_|refine X.W rfl ?_|refine X.Y rfl ?_|refine X.Z rfl ?_|refine WS.nil ?_|fail)
      repeat' (first|refine X.O ?_|refine X.A ?_|refine X.B ?_|refine X.C ?_|refine X.D ?_|refine X.E ?_|refine X.F ?_|refine X.G ?_|refine X.H ?_|refine X.I ?_|fail)
      refine ⟨_, ret2 rfl (by rfl) (by rfl), ?_⟩
      exact ⟨v8, v9, rfl, hN8.rd.below hN9.2, hN9.rd, hbl04.trans (Below.mono hS9 (by omega))⟩
end Go.Proofs
