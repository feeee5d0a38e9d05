/- Bytes and pieces of strings in walks; l01Split. -/
import Derived.Test.YthepgmajeljdhaaGreatDoorZ1
import Derived.Test.YthepgmajeljdhaaGreatDoorZP
import Derived.Laws.Strings
import Derived.Laws.Slices
set_option maxRecDepth 8000
namespace Go.Fw
open Go Go.RowKit Go.Rk
section
variable {P : Program} {N : Nat} {Q : Exit → Fr → World → Prop} {S : World → Prop} {l : Fr} {w : World} {ops : Array Oper} {K : Fr → World → Prop}
variable {d : Nat} {ty : TypeId} {pos : String} {af : Array Edge} {g : Option (Nat × Bool)}
theorem St_size (s : List UInt8) : (⟨s.toArray⟩ : ByteArray).size = s.length := by simp [ByteArray.size]
theorem o_lenT {t : TypeId} [h : StrTy P t] {x : Operand} {s : List UInt8} (hx : ev l x = some (St s)) (k : K ((d, .int .i64 (s.length : Nat)) :: l) w) (hg : wantedL ops l g = some true := by rfl) (hd : Nat.blt d N = true := by rfl) :
    OpW P N ops Q ⟨some d, .call { callee := .builtin .len, args := #[x], argTypes := #[t] }, ty, pos, af, g⟩ l w K :=
  o_lenS hx (by rw [St_size]; exact k) hg hd
theorem St_extract (s : List UInt8) (i j : Nat) : (⟨s.toArray⟩ : ByteArray).extract i j = ⟨((s.drop i).take (j - i)).toArray⟩ := by
  apply ByteArray.ext
  simp [ByteArray.data_extract]
theorem o_indexT {t : TypeId} [h : StrTy P t] {x y : Operand} {s : List UInt8} {k0 : IntKind} {j : Int} {i : Nat} (hx : ev l x = some (St s)) (hy : ev l y = some (.int k0 j)) (hj : j = (i : Int)) (hi : i < s.length) (k : K ((d, .int .u8 (s[i].toNat : Int)) :: l) w)
    (hg : wantedL ops l g = some true := by rfl) (hd : Nat.blt d N = true := by rfl) : OpW P N ops Q ⟨some d, .index t x y, ty, pos, af, g⟩ l w K := by
  subst hj
  refine OpW.val (v := .int .u8 (s[i].toNat : Int)) (fun fr ha => ?_) k hg hd
  have hi' : (0 : Int) ≤ (i : Int) ∧ (i : Int) < ((⟨s.toArray⟩ : ByteArray).size : Int) := by rw [St_size]; omega
  simp only [execOp, ha.ev hx, ha.ev hy, Sem.run_bind, run_index_string w t ⟨s.toArray⟩ k0 (i : Int) h.und, dif_pos hi']
  rfl
theorem o_sliceT {t : TypeId} [h : StrTy P t] {x y z : Operand} {s : List UInt8} {k1 k2 : IntKind} {i j : Nat} (hx : ev l x = some (St s)) (hy : ev l y = some (.int k1 (i : Nat))) (hz : ev l z = some (.int k2 (j : Nat))) (hi : i ≤ j) (hj : j ≤ s.length) (k : K ((d, St ((s.drop i).take (j - i))) :: l) w)
    (hg : wantedL ops l g = some true := by rfl) (hd : Nat.blt d N = true := by rfl) : OpW P N ops Q ⟨some d, .slice t x (some y) (some z) none, ty, pos, af, g⟩ l w K := by
  refine OpW.val (v := St ((s.drop i).take (j - i))) (fun fr ha => ?_) k hg hd
  have e : (Instr.sliceAt t (.string ⟨s.toArray⟩) (some (.int k1 (i : Nat))) (some (.int k2 (j : Nat))) none).run P w = .ok (St ((s.drop i).take (j - i))) w := by
    rw [run_sliceAt_string w t _ _ _ _ h.und]
    have h3 : (j : Int) ≤ ((⟨s.toArray⟩ : ByteArray).size : Int) := by rw [St_size]; omega
    have h4 := St_extract s i j
    simp [Instr.slice, run_underlying h.und, Instr.sliceBounds, run_sliceBound, sliced, hi, hj, h3, h4]
  simp [execOp, ha.ev hx, ha.ev hy, ha.ev hz, e]
theorem o_sliceTl {t : TypeId} [h : StrTy P t] {x y : Operand} {s : List UInt8} {k1 : IntKind} {i : Nat} (hx : ev l x = some (St s)) (hy : ev l y = some (.int k1 (i : Nat))) (hi : i ≤ s.length) (k : K ((d, St (s.drop i)) :: l) w)
    (hg : wantedL ops l g = some true := by rfl) (hd : Nat.blt d N = true := by rfl) : OpW P N ops Q ⟨some d, .slice t x (some y) none none, ty, pos, af, g⟩ l w K := by
  refine OpW.val (v := St (s.drop i)) (fun fr ha => ?_) k hg hd
  have e : (Instr.sliceAt t (.string ⟨s.toArray⟩) (some (.int k1 (i : Nat))) none none).run P w = .ok (St (s.drop i)) w := by
    rw [run_sliceAt_string w t _ _ _ _ h.und, run_slice_string_l w t ⟨s.toArray⟩ h.und k1 (i : Nat) (by omega) (by rw [St_size]; omega), St_extract, St_size]
    have : (s.drop i).take (s.length - i) = s.drop i := List.take_of_length_le (by simp)
    simp [this]
  simp [execOp, ha.ev hx, ha.ev hy, e]
end
end Go.Fw
namespace Go.Proofs
open Go Go.Fw Go.RowKit Go.Rk
theorem l01Split_any (s : List UInt8) (b : UInt8) (hs : s.length ≤ 4000000000) (w : World) : Does Tryz.prog 43 [St s, .int .u8 (b.toNat : Int)] w fun r w' => Fw.Own w.heap.size 9 w' r ((split1 b s).map St) ∧ Below w.heap.size w w' := by
  refine Does.enter Tryz.func43 Tryz.ntmps43 rfl (by rfl) ?_
  repeat' (first|refine X.O ?_|refine X.A ?_|refine X.B ?_|refine X.C ?_|refine X.D ?_|refine X.E ?_|refine X.F ?_|refine X.G ?_|refine X.H ?_|refine X.I ?_|fail)
  refine WL.step (o_lit (us := []) (by rfl) (by rfl) rfl (by decide) one0 ?_)
  intro v1 w1 hown1 hbl1 hz1 _
  repeat' (first|refine X.O ?_|refine X.A ?_|refine X.B ?_|refine X.C ?_|refine X.D ?_|refine X.E ?_|refine X.F ?_|refine X.G ?_|refine X.H ?_|refine X.I ?_|fail)
  refine WP.loop (fun (q : Nat × Nat × Value × List (List UInt8)) => [(0, St s), (1, .int .u8 (b.toNat : Int)), (5, q.2.2.1), (6, .int .i64 (q.2.1 : Nat)), (7, .int .i64 (q.1 : Nat))])
    (fun q y => q.1 ≤ s.length ∧ q.2.1 ≤ q.1 ∧ (∀ k (h : k < s.length), q.2.1 ≤ k → k < q.1 → s[k] ≠ b) ∧ split1 b s = q.2.2.2 ++ split1 b (s.drop q.2.1) ∧ q.2.2.2.length ≤ q.2.1 ∧ Fw.Own w.heap.size 9 y q.2.2.1 (q.2.2.2.map St) ∧ Below w.heap.size w y)
    (fun q => s.length - q.1) (0, 0, v1, []) ⟨rfl, rfl, rfl, rfl, rfl, trivial⟩ ⟨by dsimp only; omega, Nat.le_refl _, fun k h h1 h2 => by dsimp only at h2; omega, by simp, Nat.le_refl _, hown1, hbl1⟩ ?_
  clear hown1 hbl1
  rintro ⟨i, a, vo, out⟩ y ⟨hi, hai, hno, hsp, hol, hown, hbl⟩
  dsimp only at hi hai hno hsp hol hown ⊢
  have hzy := hbl.size
  repeat' (first|refine X.O ?_|refine X.A ?_|refine X.B ?_|refine X.C ?_|refine X.D ?_|refine X.E ?_|refine X.F ?_|refine X.G ?_|refine X.H ?_|refine X.I ?_|fail)
  refine WL.step (o_lenT (by rfl) ?_)
  repeat' (first|refine X.O ?_|refine X.A ?_|refine X.B ?_|refine X.C ?_|refine X.D ?_|refine X.E ?_|refine X.F ?_|refine X.G ?_|refine X.H ?_|refine X.I ?_|fail)
  first|refine X.J (fun _ => ?_) (fun _ => ?_)|refine X.L (fun _ => ?_) (fun _ => ?_)|refine X.M (fun _ => ?_) (fun _ => ?_)|refine X.R (fun _ => ?_) (fun _ => ?_)|fail
  · rename_i hlt
    have hli : i < s.length := by omega
    repeat' (first|refine X.O ?_|refine X.A ?_|refine X.B ?_|refine X.C ?_|refine X.D ?_|refine X.E ?_|refine X.F ?_|refine X.G ?_|refine X.H ?_|refine X.I ?_|fail)
    refine WL.step (o_indexT (i := i) (by rfl) (by rfl) rfl hli ?_)
    repeat' (first|refine X.O ?_|refine X.A ?_|refine X.B ?_|refine X.C ?_|refine X.D ?_|refine X.E ?_|refine X.F ?_|refine X.G ?_|refine X.H ?_|refine X.I ?_|fail)
    first|refine X.J (fun _ => ?_) (fun _ => ?_)|refine X.L (fun _ => ?_) (fun _ => ?_)|refine X.M (fun _ => ?_) (fun _ => ?_)|refine X.R (fun _ => ?_) (fun _ => ?_)|fail
    · rename_i heq
      have hb : s[i] = b := UInt8.toNat_inj.1 (by omega)
      have hcut := split1_at (b := b) (l := s.drop a) (m := i - a) (fun k hk hm => by
        rw [List.getElem_drop]
        exact hno (a + k) (by simp at hk; omega) (by omega) (by omega)) (by
        rw [List.getElem?_drop, show a + (i - a) = i by omega, List.getElem?_eq_getElem hli, hb])
      rw [List.drop_drop, show a + (i - a + 1) = i + 1 by omega] at hcut
      repeat' (first|refine X.O ?_|refine X.A ?_|refine X.B ?_|refine X.C ?_|refine X.D ?_|refine X.E ?_|refine X.F ?_|refine X.G ?_|refine X.H ?_|refine X.I ?_|fail)
      refine WL.step (o_sliceT (i := a) (j := i) (by rfl) (by rfl) (by rfl) hai hi ?_)
      refine o_append1 (u := St ((s.drop a).take (i - a))) (fun _ => by rfl) (by rfl) hown rfl (by simp [maxLen]; omega) (by simp; omega) (by omega) ?_
      intro p2 v2 w2 hown2 hb2 _ hz2 _
      repeat' (first|refine X.O ?_|refine X.A ?_|refine X.B ?_|refine X.C ?_|refine X.D ?_|refine X.E ?_|refine X.F ?_|refine X.G ?_|refine X.H ?_|refine X.I ?_|fail)
      refine ⟨(i + 1, i + 1, v2, out ++ [(s.drop a).take (i - a)]), ⟨rfl, rfl, rfl, X.T (by dsimp only; omega), X.T (by dsimp only; omega), trivial⟩, ⟨by dsimp only; omega, Nat.le_refl _, fun k h h1 h2 => by dsimp only at h1 h2; omega, ?_, by simp; omega, ?_, hbl.trans hb2⟩, by dsimp only; omega⟩
      · dsimp only
        rw [hsp, hcut]; simp
      · dsimp only
        rw [List.map_append]; exact hown2
    · rename_i hne
      repeat' (first|refine X.O ?_|refine X.A ?_|refine X.B ?_|refine X.C ?_|refine X.D ?_|refine X.E ?_|refine X.F ?_|refine X.G ?_|refine X.H ?_|refine X.I ?_|fail)
      refine ⟨(i + 1, a, vo, out), ⟨rfl, rfl, rfl, rfl, X.T (by dsimp only; omega), trivial⟩, ⟨by dsimp only; omega, by dsimp only; omega, fun k h h1 h2 => ?_, hsp, hol, hown, hbl⟩, by dsimp only; omega⟩
      dsimp only at h1 h2
      by_cases e : k = i
      · subst e; intro e2; exact hne (by rw [e2])
      · exact hno k h h1 (by omega)
  · rename_i hge
    have hie : i = s.length := by omega
    have hend := split1_none (b := b) (l := s.drop a) (fun k hk => by
      rw [List.getElem_drop]
      simp at hk
      exact hno (a + k) (by omega) (by omega) (by omega))
    repeat' (first|refine X.O ?_|refine X.A ?_|refine X.B ?_|refine X.C ?_|refine X.D ?_|refine X.E ?_|refine X.F ?_|refine X.G ?_|refine X.H ?_|refine X.I ?_|fail)
    refine WL.step (o_sliceTl (i := a) (by rfl) (by rfl) (by omega) ?_)
    refine o_append1 (u := St (s.drop a)) (fun _ => by rfl) (by rfl) hown rfl (by simp [maxLen]; omega) (by simp; omega) (by omega) ?_
    intro p2 v2 w2 hown2 hb2 _ hz2 _
    repeat' (first|refine X.O ?_|refine X.A ?_|refine X.B ?_|refine X.C ?_|refine X.D ?_|refine X.E ?_|refine X.F ?_|refine X.G ?_|refine X.H ?_|refine X.I ?_|fail)
    refine ⟨_, ret1 rfl (by rfl), ?_⟩
    refine ⟨?_, hbl.trans hb2⟩
    rw [hsp, hend, List.map_append]
    exact hown2
end Go.Proofs
