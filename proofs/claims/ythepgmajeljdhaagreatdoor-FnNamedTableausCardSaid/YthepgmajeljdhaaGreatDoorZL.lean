/- NamedTableau, both sides, walked. Printed by gen_zl.py. -/
import Derived.Test.YthepgmajeljdhaaGreatDoorZK
import Derived.Test.YthepgmajeljdhaaGreatDoorZJ
set_option maxRecDepth 8000
namespace Go.Fw
open Go Go.RowKit Go.Rk
section
variable {P : Program} {N : Nat} {Q : Exit → Fr → World → Prop} {S : World → Prop} {l : Fr} {w : World} {ops : Array Oper} {K : Fr → World → Prop}
variable {d : Nat} {ty : TypeId} {pos : String} {af : Array Edge} {g : Option (Nat × Bool)}
theorem o_eqT {x y : Operand} {t t' : TypeId} {a b : List UInt8} (hx : ev l x = some (St a)) (hy : ev l y = some (St b)) (k : K ((d, .bool (decide (a = b))) :: l) w)
    (hg : wantedL ops l g = some true := by rfl) (hd : Nat.blt d N = true := by rfl) : OpW P N ops Q ⟨some d, .binOp .eql t x y t', ty, pos, af, g⟩ l w K :=
  o_eqS hx hy (by rw [eqS_St]; exact k) hg hd
end
theorem PT.setRow {r b : Nat} {w0 w w8 : World} {va vb u : Value} {vs : List Value} {x : TabD} {ys zs : List Int} (h : PT r b w0 w va vb vs x) {j : Nat} (hu : vs[j]? = some u) (hx : x.1[j]? = some ys) (o8 : Own (r + 1) 2 w8 u (Ints zs)) (bl8 : Below (r + 1) w w8) (z8 : w8.heap.size = w.heap.size)
    (f8 : ∀ k, u.ownBlock ≠ some k → w8.heap[k]? = w.heap[k]?) : PT r b w0 w8 va vb vs (x.1.set j zs, x.2) := by
  have h2 := h.rb
  have h3 := h.size0
  have hru := h.rows.rows j u ys hu hx
  have keep : ∀ b cs, Blk w b cs 27 → Blk w8 b cs 27 := fun b cs hb => hb.keep (f8 b (hru.own.outV hb (by decide)))
  have rN := h.rows.setRow hu o8 z8 f8
  have oL : Own (r + 1) 2 w8 vb (Ints x.2) := h.last.own.keep fun k hk => f8 k (fun e => h.apart j u hu k e hk)
  exact ⟨h.size0, h.rb, keep _ _ h.res, keep _ _ h.var, rN.wide (Nat.le_refl _) (by rw [z8]; exact Nat.le_refl _) (Nat.le_refl _), ⟨oL, fun k hk => (oL.block k hk).2, Nat.le_refl _⟩, h.apart, h.bel.trans (Below.mono bl8 (by omega))⟩
end Go.Fw
namespace Go.Proofs
open Go Go.Fw Go.RowKit Go.Rk
theorem namesV_eq : namesV = nm12.map St := by rfl
theorem namedText_any (s : List UInt8) (w : World) : Does Tryz.prog 45 [St s] w fun r w' => r = .tuple #[St (textN s).1, .bool (textN s).2] ∧ w' = w := by
  refine Does.enter Tryz.func45 Tryz.ntmps45 rfl (by rfl) ?_
  repeat' (first|refine X.O ?_|refine X.A ?_|refine X.B ?_|refine X.C ?_|refine X.D ?_|refine X.E ?_|refine X.F ?_|refine X.G ?_|refine X.H ?_|refine X.I ?_|fail)
  refine WL.step (o_eqT (b := [101, 117, 108, 101, 114]) (by rfl) (by rfl) ?_)
  repeat' (first|refine X.O ?_|refine X.A ?_|refine X.B ?_|refine X.C ?_|refine X.D ?_|refine X.E ?_|refine X.F ?_|refine X.G ?_|refine X.H ?_|refine X.I ?_|fail)
  first|refine X.J (fun _ => ?_) (fun _ => ?_)|refine X.L (fun _ => ?_) (fun _ => ?_)|refine X.M (fun _ => ?_) (fun _ => ?_)|refine X.R (fun _ => ?_) (fun _ => ?_)|fail
  · rename_i h
    subst h
    rw [show textN [101, 117, 108, 101, 114] = ([48, 124, 49], true) from by kernel_rfl]
    repeat' (first|refine X.O ?_|refine X.A ?_|refine X.B ?_|refine X.C ?_|refine X.D ?_|refine X.E ?_|refine X.F ?_|refine X.G ?_|refine X.H ?_|refine X.I ?_|fail)
    refine ⟨_, ret2 rfl (by rfl) (by rfl), ?_⟩
    exact ⟨rfl, rfl⟩
  rename_i h0
  repeat' (first|refine X.O ?_|refine X.A ?_|refine X.B ?_|refine X.C ?_|refine X.D ?_|refine X.E ?_|refine X.F ?_|refine X.G ?_|refine X.H ?_|refine X.I ?_|fail)
  refine WL.step (o_eqT (b := [104, 101, 117, 110]) (by rfl) (by rfl) ?_)
  repeat' (first|refine X.O ?_|refine X.A ?_|refine X.B ?_|refine X.C ?_|refine X.D ?_|refine X.E ?_|refine X.F ?_|refine X.G ?_|refine X.H ?_|refine X.I ?_|fail)
  first|refine X.J (fun _ => ?_) (fun _ => ?_)|refine X.L (fun _ => ?_) (fun _ => ?_)|refine X.M (fun _ => ?_) (fun _ => ?_)|refine X.R (fun _ => ?_) (fun _ => ?_)|fail
  · rename_i h
    subst h
    rw [show textN [104, 101, 117, 110] = ([48, 32, 48, 59, 49, 32, 48, 124, 49, 47, 50, 32, 49, 47, 50], true) from by kernel_rfl]
    repeat' (first|refine X.O ?_|refine X.A ?_|refine X.B ?_|refine X.C ?_|refine X.D ?_|refine X.E ?_|refine X.F ?_|refine X.G ?_|refine X.H ?_|refine X.I ?_|fail)
    refine ⟨_, ret2 rfl (by rfl) (by rfl), ?_⟩
    exact ⟨rfl, rfl⟩
  rename_i h1
  repeat' (first|refine X.O ?_|refine X.A ?_|refine X.B ?_|refine X.C ?_|refine X.D ?_|refine X.E ?_|refine X.F ?_|refine X.G ?_|refine X.H ?_|refine X.I ?_|fail)
  refine WL.step (o_eqT (b := [105, 109, 112, 108, 105, 99, 105, 116]) (by rfl) (by rfl) ?_)
  repeat' (first|refine X.O ?_|refine X.A ?_|refine X.B ?_|refine X.C ?_|refine X.D ?_|refine X.E ?_|refine X.F ?_|refine X.G ?_|refine X.H ?_|refine X.I ?_|fail)
  first|refine X.J (fun _ => ?_) (fun _ => ?_)|refine X.L (fun _ => ?_) (fun _ => ?_)|refine X.M (fun _ => ?_) (fun _ => ?_)|refine X.R (fun _ => ?_) (fun _ => ?_)|fail
  · rename_i h
    subst h
    rw [show textN [105, 109, 112, 108, 105, 99, 105, 116] = ([49, 124, 49], true) from by kernel_rfl]
    repeat' (first|refine X.O ?_|refine X.A ?_|refine X.B ?_|refine X.C ?_|refine X.D ?_|refine X.E ?_|refine X.F ?_|refine X.G ?_|refine X.H ?_|refine X.I ?_|fail)
    refine ⟨_, ret2 rfl (by rfl) (by rfl), ?_⟩
    exact ⟨rfl, rfl⟩
  rename_i h2
  repeat' (first|refine X.O ?_|refine X.A ?_|refine X.B ?_|refine X.C ?_|refine X.D ?_|refine X.E ?_|refine X.F ?_|refine X.G ?_|refine X.H ?_|refine X.I ?_|fail)
  refine WL.step (o_eqT (b := [107, 117, 116, 116, 97]) (by rfl) (by rfl) ?_)
  repeat' (first|refine X.O ?_|refine X.A ?_|refine X.B ?_|refine X.C ?_|refine X.D ?_|refine X.E ?_|refine X.F ?_|refine X.G ?_|refine X.H ?_|refine X.I ?_|fail)
  first|refine X.J (fun _ => ?_) (fun _ => ?_)|refine X.L (fun _ => ?_) (fun _ => ?_)|refine X.M (fun _ => ?_) (fun _ => ?_)|refine X.R (fun _ => ?_) (fun _ => ?_)|fail
  · rename_i h
    subst h
    rw [show textN [107, 117, 116, 116, 97] = ([48, 32, 48, 32, 48, 59, 49, 47, 50, 32, 48, 32, 48, 59, 45, 49, 32, 50, 32, 48, 124, 49, 47, 54, 32, 50, 47, 51, 32, 49, 47, 54], true) from by kernel_rfl]
    repeat' (first|refine X.O ?_|refine X.A ?_|refine X.B ?_|refine X.C ?_|refine X.D ?_|refine X.E ?_|refine X.F ?_|refine X.G ?_|refine X.H ?_|refine X.I ?_|fail)
    refine ⟨_, ret2 rfl (by rfl) (by rfl), ?_⟩
    exact ⟨rfl, rfl⟩
  rename_i h3
  repeat' (first|refine X.O ?_|refine X.A ?_|refine X.B ?_|refine X.C ?_|refine X.D ?_|refine X.E ?_|refine X.F ?_|refine X.G ?_|refine X.H ?_|refine X.I ?_|fail)
  refine WL.step (o_eqT (b := [108, 111, 98, 97, 116, 116, 111]) (by rfl) (by rfl) ?_)
  repeat' (first|refine X.O ?_|refine X.A ?_|refine X.B ?_|refine X.C ?_|refine X.D ?_|refine X.E ?_|refine X.F ?_|refine X.G ?_|refine X.H ?_|refine X.I ?_|fail)
  first|refine X.J (fun _ => ?_) (fun _ => ?_)|refine X.L (fun _ => ?_) (fun _ => ?_)|refine X.M (fun _ => ?_) (fun _ => ?_)|refine X.R (fun _ => ?_) (fun _ => ?_)|fail
  · rename_i h
    subst h
    rw [show textN [108, 111, 98, 97, 116, 116, 111] = ([48, 32, 48, 32, 48, 59, 53, 47, 50, 52, 32, 49, 47, 51, 32, 45, 49, 47, 50, 52, 59, 49, 47, 54, 32, 50, 47, 51, 32, 49, 47, 54, 124, 49, 47, 54, 32, 50, 47, 51, 32, 49, 47, 54], true) from by kernel_rfl]
    repeat' (first|refine X.O ?_|refine X.A ?_|refine X.B ?_|refine X.C ?_|refine X.D ?_|refine X.E ?_|refine X.F ?_|refine X.G ?_|refine X.H ?_|refine X.I ?_|fail)
    refine ⟨_, ret2 rfl (by rfl) (by rfl), ?_⟩
    exact ⟨rfl, rfl⟩
  rename_i h4
  repeat' (first|refine X.O ?_|refine X.A ?_|refine X.B ?_|refine X.C ?_|refine X.D ?_|refine X.E ?_|refine X.F ?_|refine X.G ?_|refine X.H ?_|refine X.I ?_|fail)
  refine WL.step (o_eqT (b := [109, 105, 100, 100, 108, 101]) (by rfl) (by rfl) ?_)
  repeat' (first|refine X.O ?_|refine X.A ?_|refine X.B ?_|refine X.C ?_|refine X.D ?_|refine X.E ?_|refine X.F ?_|refine X.G ?_|refine X.H ?_|refine X.I ?_|fail)
  first|refine X.J (fun _ => ?_) (fun _ => ?_)|refine X.L (fun _ => ?_) (fun _ => ?_)|refine X.M (fun _ => ?_) (fun _ => ?_)|refine X.R (fun _ => ?_) (fun _ => ?_)|fail
  · rename_i h
    subst h
    rw [show textN [109, 105, 100, 100, 108, 101] = ([49, 47, 50, 124, 49], true) from by kernel_rfl]
    repeat' (first|refine X.O ?_|refine X.A ?_|refine X.B ?_|refine X.C ?_|refine X.D ?_|refine X.E ?_|refine X.F ?_|refine X.G ?_|refine X.H ?_|refine X.I ?_|fail)
    refine ⟨_, ret2 rfl (by rfl) (by rfl), ?_⟩
    exact ⟨rfl, rfl⟩
  rename_i h5
  repeat' (first|refine X.O ?_|refine X.A ?_|refine X.B ?_|refine X.C ?_|refine X.D ?_|refine X.E ?_|refine X.F ?_|refine X.G ?_|refine X.H ?_|refine X.I ?_|fail)
  refine WL.step (o_eqT (b := [109, 105, 100, 112, 111, 105, 110, 116]) (by rfl) (by rfl) ?_)
  repeat' (first|refine X.O ?_|refine X.A ?_|refine X.B ?_|refine X.C ?_|refine X.D ?_|refine X.E ?_|refine X.F ?_|refine X.G ?_|refine X.H ?_|refine X.I ?_|fail)
  first|refine X.J (fun _ => ?_) (fun _ => ?_)|refine X.L (fun _ => ?_) (fun _ => ?_)|refine X.M (fun _ => ?_) (fun _ => ?_)|refine X.R (fun _ => ?_) (fun _ => ?_)|fail
  · rename_i h
    subst h
    rw [show textN [109, 105, 100, 112, 111, 105, 110, 116] = ([48, 32, 48, 59, 49, 47, 50, 32, 48, 124, 48, 32, 49], true) from by kernel_rfl]
    repeat' (first|refine X.O ?_|refine X.A ?_|refine X.B ?_|refine X.C ?_|refine X.D ?_|refine X.E ?_|refine X.F ?_|refine X.G ?_|refine X.H ?_|refine X.I ?_|fail)
    refine ⟨_, ret2 rfl (by rfl) (by rfl), ?_⟩
    exact ⟨rfl, rfl⟩
  rename_i h6
  repeat' (first|refine X.O ?_|refine X.A ?_|refine X.B ?_|refine X.C ?_|refine X.D ?_|refine X.E ?_|refine X.F ?_|refine X.G ?_|refine X.H ?_|refine X.I ?_|fail)
  refine WL.step (o_eqT (b := [114, 97, 100, 97, 117]) (by rfl) (by rfl) ?_)
  repeat' (first|refine X.O ?_|refine X.A ?_|refine X.B ?_|refine X.C ?_|refine X.D ?_|refine X.E ?_|refine X.F ?_|refine X.G ?_|refine X.H ?_|refine X.I ?_|fail)
  first|refine X.J (fun _ => ?_) (fun _ => ?_)|refine X.L (fun _ => ?_) (fun _ => ?_)|refine X.M (fun _ => ?_) (fun _ => ?_)|refine X.R (fun _ => ?_) (fun _ => ?_)|fail
  · rename_i h
    subst h
    rw [show textN [114, 97, 100, 97, 117] = ([53, 47, 49, 50, 32, 45, 49, 47, 49, 50, 59, 51, 47, 52, 32, 49, 47, 52, 124, 51, 47, 52, 32, 49, 47, 52], true) from by kernel_rfl]
    repeat' (first|refine X.O ?_|refine X.A ?_|refine X.B ?_|refine X.C ?_|refine X.D ?_|refine X.E ?_|refine X.F ?_|refine X.G ?_|refine X.H ?_|refine X.I ?_|fail)
    refine ⟨_, ret2 rfl (by rfl) (by rfl), ?_⟩
    exact ⟨rfl, rfl⟩
  rename_i h7
  repeat' (first|refine X.O ?_|refine X.A ?_|refine X.B ?_|refine X.C ?_|refine X.D ?_|refine X.E ?_|refine X.F ?_|refine X.G ?_|refine X.H ?_|refine X.I ?_|fail)
  refine WL.step (o_eqT (b := [114, 97, 108, 115, 116, 111, 110]) (by rfl) (by rfl) ?_)
  repeat' (first|refine X.O ?_|refine X.A ?_|refine X.B ?_|refine X.C ?_|refine X.D ?_|refine X.E ?_|refine X.F ?_|refine X.G ?_|refine X.H ?_|refine X.I ?_|fail)
  first|refine X.J (fun _ => ?_) (fun _ => ?_)|refine X.L (fun _ => ?_) (fun _ => ?_)|refine X.M (fun _ => ?_) (fun _ => ?_)|refine X.R (fun _ => ?_) (fun _ => ?_)|fail
  · rename_i h
    subst h
    rw [show textN [114, 97, 108, 115, 116, 111, 110] = ([48, 32, 48, 59, 50, 47, 51, 32, 48, 124, 49, 47, 52, 32, 51, 47, 52], true) from by kernel_rfl]
    repeat' (first|refine X.O ?_|refine X.A ?_|refine X.B ?_|refine X.C ?_|refine X.D ?_|refine X.E ?_|refine X.F ?_|refine X.G ?_|refine X.H ?_|refine X.I ?_|fail)
    refine ⟨_, ret2 rfl (by rfl) (by rfl), ?_⟩
    exact ⟨rfl, rfl⟩
  rename_i h8
  repeat' (first|refine X.O ?_|refine X.A ?_|refine X.B ?_|refine X.C ?_|refine X.D ?_|refine X.E ?_|refine X.F ?_|refine X.G ?_|refine X.H ?_|refine X.I ?_|fail)
  refine WL.step (o_eqT (b := [114, 117, 110, 103, 101]) (by rfl) (by rfl) ?_)
  repeat' (first|refine X.O ?_|refine X.A ?_|refine X.B ?_|refine X.C ?_|refine X.D ?_|refine X.E ?_|refine X.F ?_|refine X.G ?_|refine X.H ?_|refine X.I ?_|fail)
  first|refine X.J (fun _ => ?_) (fun _ => ?_)|refine X.L (fun _ => ?_) (fun _ => ?_)|refine X.M (fun _ => ?_) (fun _ => ?_)|refine X.R (fun _ => ?_) (fun _ => ?_)|fail
  · rename_i h
    subst h
    rw [show textN [114, 117, 110, 103, 101] = ([48, 32, 48, 32, 48, 32, 48, 59, 49, 47, 50, 32, 48, 32, 48, 32, 48, 59, 48, 32, 49, 47, 50, 32, 48, 32, 48, 59, 48, 32, 48, 32, 49, 32, 48, 124, 49, 47, 54, 32, 49, 47, 51, 32, 49, 47, 51, 32, 49, 47, 54], true) from by kernel_rfl]
    repeat' (first|refine X.O ?_|refine X.A ?_|refine X.B ?_|refine X.C ?_|refine X.D ?_|refine X.E ?_|refine X.F ?_|refine X.G ?_|refine X.H ?_|refine X.I ?_|fail)
    refine ⟨_, ret2 rfl (by rfl) (by rfl), ?_⟩
    exact ⟨rfl, rfl⟩
  rename_i h9
  repeat' (first|refine X.O ?_|refine X.A ?_|refine X.B ?_|refine X.C ?_|refine X.D ?_|refine X.E ?_|refine X.F ?_|refine X.G ?_|refine X.H ?_|refine X.I ?_|fail)
  refine WL.step (o_eqT (b := [116, 114, 97, 112, 101, 122, 111, 105, 100]) (by rfl) (by rfl) ?_)
  repeat' (first|refine X.O ?_|refine X.A ?_|refine X.B ?_|refine X.C ?_|refine X.D ?_|refine X.E ?_|refine X.F ?_|refine X.G ?_|refine X.H ?_|refine X.I ?_|fail)
  first|refine X.J (fun _ => ?_) (fun _ => ?_)|refine X.L (fun _ => ?_) (fun _ => ?_)|refine X.M (fun _ => ?_) (fun _ => ?_)|refine X.R (fun _ => ?_) (fun _ => ?_)|fail
  · rename_i h
    subst h
    rw [show textN [116, 114, 97, 112, 101, 122, 111, 105, 100] = ([48, 32, 48, 59, 49, 47, 50, 32, 49, 47, 50, 124, 49, 47, 50, 32, 49, 47, 50], true) from by kernel_rfl]
    repeat' (first|refine X.O ?_|refine X.A ?_|refine X.B ?_|refine X.C ?_|refine X.D ?_|refine X.E ?_|refine X.F ?_|refine X.G ?_|refine X.H ?_|refine X.I ?_|fail)
    refine ⟨_, ret2 rfl (by rfl) (by rfl), ?_⟩
    exact ⟨rfl, rfl⟩
  rename_i h10
  repeat' (first|refine X.O ?_|refine X.A ?_|refine X.B ?_|refine X.C ?_|refine X.D ?_|refine X.E ?_|refine X.F ?_|refine X.G ?_|refine X.H ?_|refine X.I ?_|fail)
  refine WL.step (o_eqT (b := [103, 97, 117, 115, 115]) (by rfl) (by rfl) ?_)
  repeat' (first|refine X.O ?_|refine X.A ?_|refine X.B ?_|refine X.C ?_|refine X.D ?_|refine X.E ?_|refine X.F ?_|refine X.G ?_|refine X.H ?_|refine X.I ?_|fail)
  first|refine X.J (fun _ => ?_) (fun _ => ?_)|refine X.L (fun _ => ?_) (fun _ => ?_)|refine X.M (fun _ => ?_) (fun _ => ?_)|refine X.R (fun _ => ?_) (fun _ => ?_)|fail
  · rename_i h
    subst h
    rw [show textN [103, 97, 117, 115, 115] = ([49, 47, 52, 32, 49, 47, 52, 59, 49, 47, 52, 32, 49, 47, 52, 124, 49, 47, 50, 32, 49, 47, 50], true) from by kernel_rfl]
    repeat' (first|refine X.O ?_|refine X.A ?_|refine X.B ?_|refine X.C ?_|refine X.D ?_|refine X.E ?_|refine X.F ?_|refine X.G ?_|refine X.H ?_|refine X.I ?_|fail)
    refine ⟨_, ret2 rfl (by rfl) (by rfl), ?_⟩
    exact ⟨rfl, rfl⟩
  rename_i h11
  repeat' (first|refine X.O ?_|refine X.A ?_|refine X.B ?_|refine X.C ?_|refine X.D ?_|refine X.E ?_|refine X.F ?_|refine X.G ?_|refine X.H ?_|refine X.I ?_|fail)
  rw [show textN s = ([], false) from by unfold textN; rw [if_neg h0, if_neg h1, if_neg h2, if_neg h3, if_neg h4, if_neg h5, if_neg h6, if_neg h7, if_neg h8, if_neg h9, if_neg h10, if_neg h11]]
  refine ⟨_, ret2 rfl (by rfl) (by rfl), ?_⟩
  exact ⟨rfl, rfl⟩
theorem SquareRoot3_any (w : World) : Does Tryz.prog 46 [.int .i64 3] w fun r w' => r = .tuple #[.int .i64 1477, .int .i64 0] ∧ Still w w' := by
  refine Does.enter Tryz.func46 Tryz.ntmps46 rfl (by rfl) ?_
  repeat' (first|refine X.O ?_|refine X.A ?_|refine X.B ?_|refine X.C ?_|refine X.D ?_|refine X.E ?_|refine X.F ?_|refine X.G ?_|refine X.H ?_|refine X.I ?_|fail)
  refine WL.call (IsNumber_any _ _) ?_
  rintro _ w1 ⟨rfl, hs1⟩
  rw [show isN 3 = true from by kernel_rfl]
  repeat' (first|refine X.O ?_|refine X.A ?_|refine X.B ?_|refine X.C ?_|refine X.D ?_|refine X.E ?_|refine X.F ?_|refine X.G ?_|refine X.H ?_|refine X.I ?_|fail)
  refine WP.loop (fun (b : Nat) => [(0, .int .i64 3), (4, .int .i64 (b : Nat))]) (fun b y => b ≤ 1477 ∧ Still w y) (fun b => 1477 - b) 0 ⟨rfl, rfl, trivial⟩ ⟨by omega, hs1⟩ ?_
  rintro b y ⟨hb, hs⟩
  have hbb : 0 ≤ (b : Int) * b ∧ (b : Int) * b ≤ 1477 * 1477 := ⟨Int.mul_nonneg (by omega) (by omega), Int.mul_le_mul (by omega) (by omega) (by omega) (by omega)⟩
  repeat' (first|refine X.O ?_|refine X.A ?_|refine X.B ?_|refine X.C ?_|refine X.D ?_|refine X.E ?_|refine X.F ?_|refine X.G ?_|refine X.H ?_|refine X.I ?_|fail)
  first|refine X.J (fun _ => ?_) (fun _ => ?_)|refine X.L (fun _ => ?_) (fun _ => ?_)|refine X.M (fun _ => ?_) (fun _ => ?_)|refine X.R (fun _ => ?_) (fun _ => ?_)|fail
  · rename_i hle
    repeat' (first|refine X.O ?_|refine X.A ?_|refine X.B ?_|refine X.C ?_|refine X.D ?_|refine X.E ?_|refine X.F ?_|refine X.G ?_|refine X.H ?_|refine X.I ?_|fail)
    refine WL.step (o_mul (by rfl) (by rfl) (by unfold InI; omega) ?_)
    refine WL.call (num_any _ _) ?_
    rintro _ _ ⟨rfl, rfl⟩
    repeat' (first|refine X.O ?_|refine X.A ?_|refine X.B ?_|refine X.C ?_|refine X.D ?_|refine X.E ?_|refine X.F ?_|refine X.G ?_|refine X.H ?_|refine X.I ?_|fail)
    first|refine X.J (fun _ => ?_) (fun _ => ?_)|refine X.L (fun _ => ?_) (fun _ => ?_)|refine X.M (fun _ => ?_) (fun _ => ?_)|refine X.R (fun _ => ?_) (fun _ => ?_)|fail
    · rename_i he
      have hbe : b = 1477 := by
        rcases Nat.lt_or_ge b 1477 with h | h
        · exact absurd he (sq_ne h)
        · omega
      subst hbe
      repeat' (first|refine X.O ?_|refine X.A ?_|refine X.B ?_|refine X.C ?_|refine X.D ?_|refine X.E ?_|refine X.F ?_|refine X.G ?_|refine X.H ?_|refine X.I ?_|fail)
      refine ⟨_, ret2 rfl (by rfl) (by rfl), ?_⟩
      exact ⟨rfl, hs⟩
    · rename_i he
      have hbl : b < 1477 := by
        rcases Nat.lt_or_ge b 1477 with h | h
        · exact h
        · have : b = 1477 := by omega
          subst this
          exact absurd (by kernel_rfl) he
      repeat' (first|refine X.O ?_|refine X.A ?_|refine X.B ?_|refine X.C ?_|refine X.D ?_|refine X.E ?_|refine X.F ?_|refine X.G ?_|refine X.H ?_|refine X.I ?_|fail)
      exact ⟨b + 1, ⟨rfl, X.T (by omega), trivial⟩, ⟨by omega, hs⟩, by omega⟩
  · rename_i hgt
    omega
theorem sNamedTableau_any (s : List UInt8) (_ : s.length ≤ 4000000000) (w : World) : Does Tryz.prog 17 [St s] w fun r w' => ResT 25 2 w r w' (namedTab s) := by
  refine Does.enter Tryz.func17 Tryz.ntmps17 rfl (by rfl) ?_
  repeat' (first|refine X.O ?_|refine X.A ?_|refine X.B ?_|refine X.C ?_|refine X.D ?_|refine X.E ?_|refine X.F ?_|refine X.G ?_|refine X.H ?_|refine X.I ?_|fail)
  refine WL.step (o_alloc ?_)
  intro w1 hb1 hbl1 hz1
  repeat' (first|refine X.O ?_|refine X.A ?_|refine X.B ?_|refine X.C ?_|refine X.D ?_|refine X.E ?_|refine X.F ?_|refine X.G ?_|refine X.H ?_|refine X.I ?_|fail)
  refine WL.call (sTableauNames_any w1) ?_
  rintro v2 w2 ⟨hown2, hc2⟩
  have hz2 := hc2.size
  have hbl2 : Below w.heap.size w w2 := hbl1.trans (hc2.below (by omega) (Or.inr (Nat.zero_le _)))
  replace hb1 := hb1.chg0 hc2
  rw [namesV_eq] at hown2
  have hrd := hown2.rd
  obtain ⟨a2, c2, hv2, _⟩ := hown2.own.shape
  rw [List.length_map, show nm12.length = 12 from rfl] at hv2
  subst hv2
  repeat' (first|refine X.O ?_|refine X.A ?_|refine X.B ?_|refine X.C ?_|refine X.D ?_|refine X.E ?_|refine X.F ?_|refine X.G ?_|refine X.H ?_|refine X.I ?_|fail)
  refine WP.loop (fun (i : Nat) => [(0, St s), (2, .pointer (some ⟨w.heap.size, 0, none⟩)), (4, .slice a2 12 c2), (5, .int .i64 (i : Nat))]) (fun i y => i ≤ 12 ∧ (∀ j, j < i → nm12.getD j [] ≠ s) ∧ y = w2) (fun i => 12 - i) 0 ⟨rfl, rfl, rfl, rfl, trivial⟩ ⟨by omega, fun j hj => by omega, rfl⟩ ?_
  rintro i y ⟨hi, hno, rfl⟩
  repeat' (first|refine X.O ?_|refine X.A ?_|refine X.B ?_|refine X.C ?_|refine X.D ?_|refine X.E ?_|refine X.F ?_|refine X.G ?_|refine X.H ?_|refine X.I ?_|fail)
  first|refine X.J (fun _ => ?_) (fun _ => ?_)|refine X.L (fun _ => ?_) (fun _ => ?_)|refine X.M (fun _ => ?_) (fun _ => ?_)|refine X.R (fun _ => ?_) (fun _ => ?_)|fail
  · rename_i hlt
    have hli : i < 12 := by omega
    repeat' (first|refine X.O ?_|refine X.A ?_|refine X.B ?_|refine X.C ?_|refine X.D ?_|refine X.E ?_|refine X.F ?_|refine X.G ?_|refine X.H ?_|refine X.I ?_|fail)
    refine WL.ixload (j := i) (a := St (nm12.getD i [])) hrd (by rw [List.getElem?_map, List.getElem?_eq_getElem (show i < nm12.length from hli), List.getD_eq_getElem?_getD, List.getElem?_eq_getElem (show i < nm12.length from hli)]; rfl) ?_
    intro p u hu
    rw [show u = St (nm12.getD i []) from hu]
    clear hu u
    repeat' (first|refine X.O ?_|refine X.A ?_|refine X.B ?_|refine X.C ?_|refine X.D ?_|refine X.E ?_|refine X.F ?_|refine X.G ?_|refine X.H ?_|refine X.I ?_|fail)
    refine WL.step (o_eqT (by rfl) (by rfl) ?_)
    repeat' (first|refine X.O ?_|refine X.A ?_|refine X.B ?_|refine X.C ?_|refine X.D ?_|refine X.E ?_|refine X.F ?_|refine X.G ?_|refine X.H ?_|refine X.I ?_|fail)
    first|refine X.J (fun _ => ?_) (fun _ => ?_)|refine X.L (fun _ => ?_) (fun _ => ?_)|refine X.M (fun _ => ?_) (fun _ => ?_)|refine X.R (fun _ => ?_) (fun _ => ?_)|fail
    · rename_i he
      subst he
      have e : namedTab (nm12.getD i []) = (namedT ⟨(nm12.getD i []).toArray⟩, 0) := by rw [namedTab_at hli, name_tab hli]
      rw [e]
      repeat' (first|refine X.O ?_|refine X.A ?_|refine X.B ?_|refine X.C ?_|refine X.D ?_|refine X.E ?_|refine X.F ?_|refine X.G ?_|refine X.H ?_|refine X.I ?_|fail)
      refine WL.call (l09Named_any ⟨(nm12.getD i []).toArray⟩ _) ?_
      rintro v4 w4 ⟨oT, hc4⟩
      have hz4 := hc4.size
      replace hb1 := hb1.chg0 hc4
      obtain ⟨aq, nq, cq, ar, nr, cr, rfl⟩ := oT.cells
      refine WL.step (o_storeS (vs := [.slice aq nq cq, .slice ar nr cr]) (by rfl) (by rfl) hb1 (by rfl) (by rfl) two_cells ?_)
      intro w5 hb5 hbut5
      have hc5 := hbut5.chg
      have hz5 := hbut5.size
      repeat' (first|refine X.O ?_|refine X.A ?_|refine X.B ?_|refine X.C ?_|refine X.D ?_|refine X.E ?_|refine X.F ?_|refine X.G ?_|refine X.H ?_|refine X.I ?_|fail)
      refine ⟨_, retS1 rfl (by rfl) hb5 (by rfl) (by rfl), _, rfl, (oT.chg hc5 (by omega)).wide (by omega) (by omega) (by omega), ?_⟩
      exact Chg.of_below (hbl2.trans ((hc4.below (by omega) (Or.inr (Nat.zero_le _))).trans (hbut5.below (Nat.le_refl _))))
    · rename_i hne
      repeat' (first|refine X.O ?_|refine X.A ?_|refine X.B ?_|refine X.C ?_|refine X.D ?_|refine X.E ?_|refine X.F ?_|refine X.G ?_|refine X.H ?_|refine X.I ?_|fail)
      refine ⟨i + 1, ⟨rfl, rfl, rfl, X.T (by omega), trivial⟩, ⟨by omega, fun j hj => ?_, rfl⟩, by omega⟩
      by_cases e : j = i
      · subst e; exact hne
      · exact hno j (by omega)
  · rename_i hge
    have hie : i = 12 := by omega
    subst hie
    have hnot : s ∉ nm12 := fun hm => by
      obtain ⟨j, hj, rfl⟩ := List.getElem_of_mem hm
      exact hno j hj (by rw [List.getD_eq_getElem?_getD, List.getElem?_eq_getElem hj]; rfl)
    have e : namedTab s = (([], []), 4) := by unfold namedTab; rw [if_neg hnot]
    rw [e]
    repeat' (first|refine X.O ?_|refine X.A ?_|refine X.B ?_|refine X.C ?_|refine X.D ?_|refine X.E ?_|refine X.F ?_|refine X.G ?_|refine X.H ?_|refine X.I ?_|fail)
    refine WL.step (o_build (us := []) (cells := [.slice none 0 0, .slice none 0 0]) (by rfl) (by kernel_rfl) ?_)
    refine WL.step (o_storeS (vs := [.slice none 0 0, .slice none 0 0]) (by rfl) (by rfl) hb1 (by rfl) (by rfl) two_cells ?_)
    intro w9 hb9 hbut9
    repeat' (first|refine X.O ?_|refine X.A ?_|refine X.B ?_|refine X.C ?_|refine X.D ?_|refine X.E ?_|refine X.F ?_|refine X.G ?_|refine X.H ?_|refine X.I ?_|fail)
    exact ⟨_, retS1 rfl (by rfl) hb9 (by rfl) (by rfl), ResT.bad (hbl2.trans (hbut9.below (Nat.le_refl _))) 4⟩
theorem NamedTableau_any (s : List UInt8) (hs : s.length ≤ 4000000000) {w : World} (hS : SW w) : Does Tryz.prog 16 [St s] w fun r w' => ResT 25 2 w r w' (namedTab s) := by
  refine Does.enter Tryz.func16 Tryz.ntmps16 rfl (by rfl) ?_
  repeat' (first|refine X.O ?_|refine X.A ?_|refine X.B ?_|refine X.C ?_|refine X.D ?_|refine X.E ?_|refine X.F ?_|refine X.G ?_|refine X.H ?_|refine X.I ?_|fail)
  refine WL.step (o_alloc ?_)
  intro w1 hb1 hbl1 hz1
  repeat' (first|refine X.O ?_|refine X.A ?_|refine X.B ?_|refine X.C ?_|refine X.D ?_|refine X.E ?_|refine X.F ?_|refine X.G ?_|refine X.H ?_|refine X.I ?_|fail)
  refine WL.call (namedText_any s w1) ?_
  rintro _ w1 ⟨rfl, rfl⟩
  rcases textN_cases s with ⟨hn, hnot⟩ | ⟨i, hi, hsi, hn⟩
  · rw [hn]
    have e : namedTab s = (([], []), 4) := by unfold namedTab; rw [if_neg hnot]
    rw [e]
    repeat' (first|refine X.O ?_|refine X.A ?_|refine X.B ?_|refine X.C ?_|refine X.D ?_|refine X.E ?_|refine X.F ?_|refine X.G ?_|refine X.H ?_|refine X.I ?_|fail)
    refine WL.step (o_build (us := []) (cells := [.slice none 0 0, .slice none 0 0]) (by rfl) (by kernel_rfl) ?_)
    refine WL.step (o_storeS (vs := [.slice none 0 0, .slice none 0 0]) (by rfl) (by rfl) hb1 (by rfl) (by rfl) two_cells ?_)
    intro w9 hb9 hbut9
    repeat' (first|refine X.O ?_|refine X.A ?_|refine X.B ?_|refine X.C ?_|refine X.D ?_|refine X.E ?_|refine X.F ?_|refine X.G ?_|refine X.H ?_|refine X.I ?_|fail)
    exact ⟨_, retS1 rfl (by rfl) hb9 (by rfl) (by rfl), ResT.bad (hbl1.trans (hbut9.below (Nat.le_refl _))) 4⟩
  rw [hn]
  have hres : namedTab s = (tab12.getD i ([], []), 0) := by rw [hsi]; exact namedTab_at hi
  rw [hres]
  have htl : (tx12.getD i []).length ≤ 4000000000 := by
    have key : (List.range 12).all (fun i => decide ((tx12.getD i []).length ≤ 100)) = true := by kernel_rfl
    have := of_decide_eq_true (List.all_eq_true.1 key i (List.mem_range.2 hi))
    omega
  repeat' (first|refine X.O ?_|refine X.A ?_|refine X.B ?_|refine X.C ?_|refine X.D ?_|refine X.E ?_|refine X.F ?_|refine X.G ?_|refine X.H ?_|refine X.I ?_|fail)
  refine WL.call (ParseTableau_any (tx12.getD i []) htl (hS.below hbl1)) ?_
  rintro _ w2 ⟨v2, rfl, oT, hc2⟩
  rw [text_parse hi] at oT ⊢
  have hz2 := hc2.size
  replace hb1 := hb1.chg0 hc2
  have hbl2 : Below w.heap.size w w2 := hbl1.trans (hc2.below (by omega) (Or.inr (Nat.zero_le _)))
  obtain ⟨va, vb, vs, rfl, hO⟩ := oT
  obtain ⟨aA, cA, hva⟩ := hO.rows.rd.shape
  obtain ⟨aB, cB, hvb⟩ := hO.last.rd.shape
  subst hva hvb
  repeat' (first|refine X.O ?_|refine X.A ?_|refine X.B ?_|refine X.C ?_|refine X.D ?_|refine X.E ?_|refine X.F ?_|refine X.G ?_|refine X.H ?_|refine X.I ?_|fail)
  refine WL.var (vs := [.slice aA (base12.getD i ([], [])).1.length cA, .slice aB (base12.getD i ([], [])).2.length cB]) (fun _ => by rfl) (by rfl) two_cells ?_
  intro w3 hb3 hbl3 hz3
  obtain ⟨va, hva⟩ : ∃ va, Value.slice aA (base12.getD i ([], [])).1.length cA = va := ⟨_, rfl⟩
  obtain ⟨vb, hvb⟩ : ∃ vb, Value.slice aB (base12.getD i ([], [])).2.length cB = vb := ⟨_, rfl⟩
  have hc3 := Chg.of_below hbl3
  have hP : PT w.heap.size w2.heap.size w w3 va vb vs (base12.getD i ([], [])) := by
    rw [hva, hvb] at hO hb3
    exact ⟨rfl, by omega, hb1.below hbl3 (by omega), hb3, (hO.rows.chg hc3 (by omega)).wide (by omega) (by omega) (Nat.le_refl _), (hO.last.chg hc3 (by omega)).wide (by omega) (by omega) (Nat.le_refl _), hO.apart, hbl2.trans (Below.mono hbl3 (by omega))⟩
  clear hO hb3 hbl3 hb1
  by_cases hg : i = 1
  case neg =>
    have hsg : ¬ s = [103, 97, 117, 115, 115] := fun e => hg ((name_gauss hi).1 (hsi.symm.trans e))
    rw [base_is hi hg] at hP hva hvb ⊢
    repeat' (first|refine X.O ?_|refine X.A ?_|refine X.B ?_|refine X.C ?_|refine X.D ?_|refine X.E ?_|refine X.F ?_|refine X.G ?_|refine X.H ?_|refine X.I ?_|fail)
    refine WL.step (o_eqT (b := [103, 97, 117, 115, 115]) (by rfl) (by rfl) ?_)
    repeat' (first|refine X.O ?_|refine X.A ?_|refine X.B ?_|refine X.C ?_|refine X.D ?_|refine X.E ?_|refine X.F ?_|refine X.G ?_|refine X.H ?_|refine X.I ?_|fail)
    first|refine X.J (fun _ => ?_) (fun _ => ?_)|refine X.L (fun _ => ?_) (fun _ => ?_)|refine X.M (fun _ => ?_) (fun _ => ?_)|refine X.R (fun _ => ?_) (fun _ => ?_)|fail
    · rename_i h; exact absurd h hsg
    repeat' (first|refine X.O ?_|refine X.A ?_|refine X.B ?_|refine X.C ?_|refine X.D ?_|refine X.E ?_|refine X.F ?_|refine X.G ?_|refine X.H ?_|refine X.I ?_|fail)
    subst hva hvb
    refine WL.step (o_loadS (by rfl) hP.var (by rfl) ?_)
    refine WL.step (o_storeS (by rfl) (by rfl) hP.res (by rfl) (by rfl) two_cells ?_)
    intro w8 hb8 hbut8
    repeat' (first|refine X.O ?_|refine X.A ?_|refine X.B ?_|refine X.C ?_|refine X.D ?_|refine X.E ?_|refine X.F ?_|refine X.G ?_|refine X.H ?_|refine X.I ?_|fail)
    exact ⟨_, retS1 rfl (by rfl) hb8 (by rfl) (by rfl), hP.done hbut8⟩
  subst hg
  clear hva hvb hn htl hc3 hc2
  subst hsi
  have eb : base12.getD 1 ([], []) = ([[2502, 2502], [2502, 2502]], [5004, 5004]) := by kernel_rfl
  have et : tab12.getD 1 ([], []) = ([[2502, 588], [4416, 2502]], [5004, 5004]) := by kernel_rfl
  rw [show nm12.getD 1 [] = [103, 97, 117, 115, 115] from by kernel_rfl] at hres ⊢
  rw [eb] at hP ⊢
  rw [et]
  obtain ⟨u0, u1, rfl⟩ : ∃ u0 u1, vs = [u0, u1] := by
    have hl := hP.rows.len
    match vs, hl with
    | [a, b], _ => exact ⟨a, b, rfl⟩
  have r0 := hP.rows.rows 0 u0 [2502, 2502] rfl rfl
  have r1 := hP.rows.rows 1 u1 [2502, 2502] rfl rfl
  obtain ⟨gA, cA, hva, hgA1, hgA2, hcA0, _, hobA⟩ := hP.rows.own.cell (i := 0) (u := u0) rfl
  obtain ⟨gA', cA', hva', _, _, hcA1, _, _⟩ := hP.rows.own.cell (i := 1) (u := u1) rfl
  rw [hva] at hva'
  simp only [Value.slice.injEq, Option.some.injEq, Addr.mk.injEq, and_true, true_and] at hva'
  obtain ⟨rfl, rfl⟩ := hva'
  obtain ⟨g0, c0, hu0, hg01, hg02, hc00, hz00, hob0⟩ := r0.own.cell (i := 0) (u := .int .i64 2502) rfl
  obtain ⟨g0', c0', hu0', _, _, hc01, hz01, _⟩ := r0.own.cell (i := 1) (u := .int .i64 2502) rfl
  rw [hu0] at hu0'
  simp only [Value.slice.injEq, Option.some.injEq, Addr.mk.injEq, and_true, true_and] at hu0'
  obtain ⟨rfl, rfl⟩ := hu0'
  obtain ⟨g1, c1, hu1, hg11, hg12, hc10, hz10, hob1⟩ := r1.own.cell (i := 0) (u := .int .i64 2502) rfl
  have hA0 : gA ≠ g0 := fun e => hP.rows.own.ne_block r0.own hP.rows.ne hobA (by rw [hob0, e])
  have h10 : g1 ≠ g0 := fun e => hP.rows.apart 0 1 u0 u1 (by omega) rfl rfl g0 hob0 (by rw [hob1, e])
  have hb0 : w2.heap.size ≠ g0 := fun e => r0.own.outV hP.var (by decide) (by rw [hob0, e])
  subst hva hu0 hu1
  repeat' (first|refine X.O ?_|refine X.A ?_|refine X.B ?_|refine X.C ?_|refine X.D ?_|refine X.E ?_|refine X.F ?_|refine X.G ?_|refine X.H ?_|refine X.I ?_|fail)
  refine WL.step (o_eqT (b := [103, 97, 117, 115, 115]) (by rfl) (by rfl) ?_)
  repeat' (first|refine X.O ?_|refine X.A ?_|refine X.B ?_|refine X.C ?_|refine X.D ?_|refine X.E ?_|refine X.F ?_|refine X.G ?_|refine X.H ?_|refine X.I ?_|fail)
  refine WL.call (SquareRoot3_any w3) ?_
  rintro _ w4 ⟨rfl, hs4⟩
  repeat' (first|refine X.O ?_|refine X.A ?_|refine X.B ?_|refine X.C ?_|refine X.D ?_|refine X.E ?_|refine X.F ?_|refine X.G ?_|refine X.H ?_|refine X.I ?_|fail)
  refine WL.call (inv_any 6 (by omega) (by omega) _) ?_
  rintro _ w5 ⟨rfl, hs5⟩
  rw [show powN 6 10005 = 1668 from by rw [powN_F]; kernel_rfl]
  repeat' (first|refine X.O ?_|refine X.A ?_|refine X.B ?_|refine X.C ?_|refine X.D ?_|refine X.E ?_|refine X.F ?_|refine X.G ?_|refine X.H ?_|refine X.I ?_|fail)
  refine WL.step (o_mul (by rfl) (by rfl) (by unfold InI; omega) ?_)
  refine WL.call (num_any _ _) ?_
  rintro _ _ ⟨rfl, rfl⟩
  rw [show nm (1477 * 1668) = 1914 from by kernel_rfl]
  repeat' (first|refine X.O ?_|refine X.A ?_|refine X.B ?_|refine X.C ?_|refine X.D ?_|refine X.E ?_|refine X.F ?_|refine X.G ?_|refine X.H ?_|refine X.I ?_|fail)
  have hs35 := hs4.trans hs5
  have hP5 := hP.still hs35
  refine WP.drawn (fun w' => (∀ k, k < w3.heap.size → k ≠ g0 → w'.heap[k]? = w3.heap[k]?)) [(0, true), (1, true), (2, true), (3, true), (4, true), (5, true), (6, true), (7, true), (8, true), (9, true), (10, true), (11, true), (12, true), (14, true), (17, true), (18, true), (19, true), (20, true), (21, true), (22, true), (23, true), (24, true), (13, false), (15, true), (16, false), (25, false), (26, true), (27, false), (28, true), (1029, false)] (by kernel_rfl) mixed ?_
  intro w6 hst6
  have hs36 := hs35.trans hst6
  have hP6 := hP.still hs36
  have hS6 : ∀ k, k < w3.heap.size → k ≠ g0 → w6.heap[k]? = w3.heap[k]? := fun k _ _ => by rw [hs36.heap]
  have BV : ∀ w' : World, (∀ k, k < w3.heap.size → k ≠ g0 → w'.heap[k]? = w3.heap[k]?) → Blk w' w2.heap.size _ 27 := fun w' h => hP.var.keep (h _ hP.blt hb0)
  have CA0 : ∀ w' : World, (∀ k, k < w3.heap.size → k ≠ g0 → w'.heap[k]? = w3.heap[k]?) → w'.cell? ⟨gA, 0, none⟩ = some (.slice (some ⟨g0, 0, none⟩) 2 c0) := fun w' h => by rw [World.cell?_of_block (h gA hgA2 hA0)]; exact hcA0
  have CA1 : ∀ w' : World, (∀ k, k < w3.heap.size → k ≠ g0 → w'.heap[k]? = w3.heap[k]?) → w'.cell? ⟨gA, 1, none⟩ = some (.slice (some ⟨g1, 0, none⟩) 2 c1) := fun w' h => by rw [World.cell?_of_block (h gA hgA2 hA0)]; exact hcA1
  have C10 : ∀ w' : World, (∀ k, k < w3.heap.size → k ≠ g0 → w'.heap[k]? = w3.heap[k]?) → w'.cell? ⟨g1, 0, none⟩ = some (.int .i64 2502) := fun w' h => by rw [World.cell?_of_block (h g1 hg12 h10)]; exact hc10
  refine WS.fld rfl rfl BV hS6 ?_
  intro p34
  refine WS.q rfl (q_ix (n := 2) (b := gA) (o := 0) (by rfl) (by rfl) (by omega) (by omega)) hS6 ?_
  refine WS.q rfl (q_load (by rfl) CA0) hS6 ?_
  refine WS.fld rfl rfl BV hS6 ?_
  intro p38
  refine WS.q rfl (q_ix (n := 2) (b := gA) (o := 0) (by rfl) (by rfl) (by omega) (by omega)) hS6 ?_
  refine WS.q rfl (q_load (by rfl) CA1) hS6 ?_
  refine WS.fld rfl rfl BV hS6 ?_
  intro p42
  refine WS.q rfl (q_ix (n := 2) (b := gA) (o := 0) (by rfl) (by rfl) (by omega) (by omega)) hS6 ?_
  refine WS.q rfl (q_load (by rfl) CA0) hS6 ?_
  refine WS.q rfl (q_ix (n := 2) (b := g0) (o := 0) (by rfl) (by rfl) (by omega) (by omega)) hS6 ?_
  repeat' (first|refine X.U rfl ?_|refine X.V rfl ?_|refine X.W rfl ?_|refine X.Y rfl ?_|refine X.Z rfl ?_|refine WS.nil ?_|fail)
  refine WS.fld rfl rfl BV hS6 ?_
  intro p51
  refine WS.q rfl (q_ix (n := 2) (b := gA) (o := 0) (by rfl) (by rfl) (by omega) (by omega)) hS6 ?_
  refine WS.q rfl (q_load (by rfl) CA1) hS6 ?_
  refine WS.q rfl (q_ix (n := 2) (b := g1) (o := 0) (by rfl) (by rfl) (by omega) (by omega)) hS6 ?_
  refine WS.q rfl (q_load (by rfl) C10) hS6 ?_
  repeat' (first|refine X.U rfl ?_|refine X.V rfl ?_|refine X.W rfl ?_|refine X.Y rfl ?_|refine X.Z rfl ?_|refine WS.nil ?_|fail)
  have r06 := hP6.rows.rows 0 _ [2502, 2502] rfl rfl
  obtain ⟨g0', c0', hu0', _, _, hc61, hz61, _⟩ := r06.own.cell (i := 1) (u := .int .i64 2502) rfl
  simp only [Value.slice.injEq, Option.some.injEq, Addr.mk.injEq, and_true, true_and] at hu0'
  obtain ⟨rfl, rfl⟩ := hu0'
  refine WS.op rfl (o_load (by rfl) hc61 ?_)
  refine ⟨hS6, ?_⟩
  repeat' (first|refine X.U rfl ?_|refine X.V rfl ?_|refine X.W rfl ?_|refine X.Y rfl ?_|refine X.Z rfl ?_|refine WS.nil ?_|fail)
  refine WS.call rfl (num_any _ _) ?_
  rintro _ _ ⟨rfl, rfl⟩
  refine ⟨hS6, ?_⟩
  rw [show nm (2502 - 1914) = 588 from by kernel_rfl]
  refine WS.call rfl (num_any _ _) ?_
  rintro _ _ ⟨rfl, rfl⟩
  refine ⟨hS6, ?_⟩
  rw [show nm (2502 + 1914) = 4416 from by kernel_rfl]
  refine WS.q rfl (q_ix (n := 2) (b := g0) (o := 0) (by rfl) (by rfl) (by omega) (by omega)) hS6 ?_
  refine WS.op rfl (o_store (by rfl) (by rfl) hc61 hz61 ?_)
  have hbut7 := But.setCell w6 g0 1 (.int .i64 588)
  have own7 := Own.setCell r06.own 1 (.int .i64 588)
  generalize w6.setCell ⟨g0, 1, none⟩ (.int .i64 588) = w7 at hbut7 own7 ⊢
  have hP7 := hP6.setRow (j := 0) (zs := [2502, 588]) rfl rfl own7 (hbut7.below hg01) hbut7.size (fun k hk => hbut7.block k (fun e => hk (by rw [hob0, e])))
  have hS7 : ∀ k, k < w3.heap.size → k ≠ g0 → w7.heap[k]? = w3.heap[k]? := fun k hk hk2 => by rw [hbut7.block k hk2]; exact hS6 k hk hk2
  refine ⟨hS7, ?_⟩
  have r17 := hP7.rows.rows 1 _ [2502, 2502] rfl rfl
  refine WS.ixstore (j := 0) rfl rfl hS7 r17.own (by decide) ?_
  intro p61 w8 hown8 hbl8 hz8 hf8
  have hP8 := hP7.setRow (j := 1) (zs := [4416, 2502]) rfl rfl hown8 hbl8 hz8 hf8
  refine WS.nil ?_
  repeat' (first|refine X.O ?_|refine X.A ?_|refine X.B ?_|refine X.C ?_|refine X.D ?_|refine X.E ?_|refine X.F ?_|refine X.G ?_|refine X.H ?_|refine X.I ?_|fail)
  obtain ⟨aB, nB, cB, hvb⟩ : ∃ a n c, vb = .slice a n c := by
    obtain ⟨a, c, h, _⟩ := hP8.last.own.shape
    exact ⟨_, _, _, h⟩
  subst hvb
  refine WL.step (o_loadS (by rfl) hP8.var (by rfl) ?_)
  refine WL.step (o_storeS (by rfl) (by rfl) hP8.res (by rfl) (by rfl) two_cells ?_)
  intro w9 hb9 hbut9
  repeat' (first|refine X.O ?_|refine X.A ?_|refine X.B ?_|refine X.C ?_|refine X.D ?_|refine X.E ?_|refine X.F ?_|refine X.G ?_|refine X.H ?_|refine X.I ?_|fail)
  exact ⟨_, retS1 rfl (by rfl) hb9 (by rfl) (by rfl), hP8.done hbut9⟩
end Go.Proofs
