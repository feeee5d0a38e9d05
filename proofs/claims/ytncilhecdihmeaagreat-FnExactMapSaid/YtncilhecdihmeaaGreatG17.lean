/- Products of maps: valueOf, convolve, l07Conv. -/
import Derived.Test.YtncilhecdihmeaaGreatG5
import Derived.Test.YtncilhecdihmeaaGreatG4
set_option maxRecDepth 8000
namespace Go.Rk
open Go.Fw Go.Proofs
theorem valGo_snoc (a : List Int) : ∀ (c : List Nat) (out : Int) (k : Nat), valGo a out (c ++ [k]) = nm (valGo a out c * a.getD k 0)
  | [], _, _ => rfl
  | _ :: c, _, k => valGo_snoc a c _ k
theorem valGo_bd (a : List Int) : ∀ (c : List Nat) (out : Int), 0 ≤ out → out ≤ 10006 → 0 ≤ valGo a out c ∧ valGo a out c ≤ 10006
  | [], _, h0, h1 => ⟨h0, h1⟩
  | _ :: c, _, _, _ => valGo_bd a c _ (nm_bd _).1 (nm_bd _).2
theorem valGo_one (a : List Int) (c : List Nat) : valGo a 1 c = prodR modR a c := by
  rw [valGo_prod a c 1 (by omega) (by omega), Int.one_mul]
  have := prodR_isN a c
  unfold nm; omega
theorem convTerm_val (a b : List Int) (r : RowD) : valGo a (nm (r.1 * b.getD r.2.2 0)) r.2.1 = convTerm a b r := by
  rw [valGo_prod a _ _ (nm_bd _).1 (nm_bd _).2, nm_nm_mul]
  unfold convTerm
  rw [nm_mul_nm, Int.mul_assoc, Int.mul_comm (b.getD r.2.2 0)]
theorem convSum_step (a b : List Int) {rs : List RowD} {j : Nat} (h : j < rs.length) : nm (nm (convSum a b (rs.take j)) + convTerm a b rs[j]) = nm (convSum a b (rs.take (j + 1))) := by
  rw [List.take_succ_eq_append_getElem h, convSum_append, convSum, convSum, Int.add_zero]
  unfold nm
  rw [Int.emod_add_emod]
theorem expSt_zero (b : List Int) : ∀ n (h : 0 < (expSt b n).1.length), (expSt b n).1[0] = 1
  | 0, _ => rfl
  | n + 1, h => by
    have h1 : 0 < (expSt b n).1.length := by rw [(expSt_ok b n).1]; omega
    have h2 : 0 < (actR modR cutLit b (expSt b n).2).length := by rw [actR_len]; omega
    show (plusL (expSt b n).1 (actR modR cutLit b (expSt b n).2) (facInv (n + 1)))[0] = 1
    rw [plusL_get h h1 h2, expSt_zero b n h1, show (actR modR cutLit b (expSt b n).2)[0] = 0 from rfl, Int.mul_zero, Int.add_zero]
    kernel_rfl
theorem expL_zero (b : List Int) (h : 0 < (expL b).length) : (expL b)[0] = 1 := expSt_zero b 6 h
end Go.Rk
namespace Go.Fw
open Go Go.RowKit Go.Rk
section
variable {P : Program} {N : Nat} {Q : Exit → Fr → World → Prop} {l : Fr} {w : World} {ops : Array Oper} {K : Fr → World → Prop} {S : World → Prop} {sc : List (Nat × Bool)}
theorem row3_get (r : RowD) (vc : Value) {off : Nat} (h : off < 3) : ∃ u, [Value.int .i64 r.1, vc, .int .i64 (r.2.2 : Nat)][off]? = some u := ⟨_, List.getElem?_eq_getElem h⟩
/-- A field of a cut in a table that is read. -/
theorem WL.ixfldRC {lo hi off f : Nat} {rs : List RowD} {r : RowD} {t s t2 e : TypeId} {z : Array Value} {bytes : Nat} [SliceTy3 P t e z bytes] [FieldTy P s f off] [CellTy P t2] {x y : Operand} {kk : IntKind} {i : Int} {j : Nat} {d1 d2 d3 : Nat} {v : Value} {ty1 ty2 ty3 : TypeId} {pos1 pos2 pos3 : String} {af1 af2 af3 : Array Edge} {x2 x3 : Operand} {rest : List Oper}
    (hs : RC lo hi w v rs) (ha : rs[j]? = some r) (hoff : off < 3)
    (k : ∀ p q vc u, IS lo hi w vc (r.2.1.map fun (k : Nat) => (k : Int)) → [Value.int .i64 r.1, vc, .int .i64 (r.2.2 : Nat)][off]? = some u → WL P N ops Q rest ((d3, u) :: (d2, q) :: (d1, p) :: l) w) (hx : ev l x = some v := by rfl) (hy : ev l y = some (.int kk i) := by rfl) (hij : i = (j : Int) := by first | rfl | omega) (h2 : x2 = .tmp d1 := by rfl) (h3 : x3 = .tmp d2 := by rfl)
    (hd1 : Nat.blt d1 N = true := by rfl) (hd2 : Nat.blt d2 N = true := by rfl) (hd3 : Nat.blt d3 N = true := by rfl) :
    WL P N ops Q (⟨some d1, .indexAddr t x y, ty1, pos1, af1, none⟩ :: ⟨some d2, .fieldAddr s x2 f, ty2, pos2, af2, none⟩ :: ⟨some d3, .load t2 x3, ty3, pos3, af3, none⟩ :: rest) l w := by
  subst h2 h3
  obtain ⟨_, ad, c, rfl, hl, h⟩ := hs
  obtain ⟨b, o, vc, rfl, _, _, hc, hr⟩ := h _ r ha
  have hlt := (List.getElem?_eq_some_iff.1 ha).1
  subst hij
  obtain ⟨u, hu⟩ := row3_get r vc hoff
  refine WL.step (o_ix3 hx hy (by omega) (by omega) ?_ rfl hd1)
  rw [Int.toNat_natCast]
  refine WL.step (o_field (look_cons_self _ _ _) ?_ rfl hd2)
  have e1 : (⟨b, o + j * 3, none⟩ : Addr).add off = ⟨b, o + j * 3 + off, none⟩ := by unfold Addr.add; split <;> simp_all
  rw [e1]
  exact WL.step (o_load (look_cons_self _ _ _) (hc off u hu) (k _ _ vc u hr hu) rfl hd3)
theorem WS.ixfldRC {m m' m2 lo hi off f : Nat} {rs : List RowD} {r : RowD} {t s t2 e : TypeId} {z : Array Value} {bytes : Nat} [SliceTy3 P t e z bytes] [FieldTy P s f off] [CellTy P t2] {x y : Operand} {kk : IntKind} {i : Int} {j : Nat} {d1 d2 d3 : Nat} {v : Value} {ty1 ty2 ty3 : TypeId} {pos1 pos2 pos3 : String} {af1 af2 af3 : Array Edge} {x2 x3 : Operand}
    (hi1 : ops[m]? = some ⟨some d1, .indexAddr t x y, ty1, pos1, af1, none⟩) (hi2 : ops[m']? = some ⟨some d2, .fieldAddr s x2 f, ty2, pos2, af2, none⟩) (hi3 : ops[m2]? = some ⟨some d3, .load t2 x3, ty3, pos3, af3, none⟩)
    (hs : RC lo hi w v rs) (ha : rs[j]? = some r) (hoff : off < 3) (hS : ∀ w', S w' → Same lo hi w w') (hSw : S w)
    (k : ∀ p q vc u, IS lo hi w vc (r.2.1.map fun (k : Nat) => (k : Int)) → [Value.int .i64 r.1, vc, .int .i64 (r.2.2 : Nat)][off]? = some u → WS P N ops Q S sc ((d3, u) :: (d2, q) :: (d1, p) :: l) w) (hx : ev l x = some v := by rfl) (hy : ev l y = some (.int kk i) := by rfl) (hij : i = (j : Int) := by first | rfl | omega) (h2 : x2 = .tmp d1 := by rfl) (h3 : x3 = .tmp d2 := by rfl)
    (hd1 : Nat.blt d1 N = true := by rfl) (hd2 : Nat.blt d2 N = true := by rfl) (hd3 : Nat.blt d3 N = true := by rfl) :
    WS P N ops Q S ((m, true) :: (m', true) :: (m2, true) :: sc) l w := by
  subst h2 h3
  obtain ⟨_, ad, c, rfl, hl, h⟩ := hs
  obtain ⟨b, o, vc, rfl, hb1, hb2, hc, hr⟩ := h _ r ha
  have hlt := (List.getElem?_eq_some_iff.1 ha).1
  subst hij
  obtain ⟨u, hu⟩ := row3_get r vc hoff
  refine WS.q hi1 (q_ix3 hx hy (by omega) (by omega) rfl hd1) hSw ?_
  rw [Int.toNat_natCast]
  refine WS.q hi2 (q_field (look_cons_self _ _ _) rfl hd2) hSw ?_
  have e1 : (⟨b, o + j * 3, none⟩ : Addr).add off = ⟨b, o + j * 3 + off, none⟩ := by unfold Addr.add; split <;> simp_all
  rw [e1]
  exact WS.q hi3 (q_load (look_cons_self _ _ _) (fun w' hw' => by rw [World.cell?_of_block (hS w' hw' b hb1 hb2)]; exact hc off u hu) rfl hd3) hSw (k _ _ vc u hr hu)
end
end Go.Fw
namespace Go.Proofs
open Go Go.Fw Go.RowKit Go.Rk
theorem valueOf_any {la ha lc hc : Nat} {w : World} {va vc : Value} {a : List Int} {c : List Nat} (hA : IS la ha w va a) (hC : IS lc hc w vc (c.map fun (k : Nat) => (k : Int))) (haa : allN a = true) (hk : ∀ k ∈ c, k < a.length) (hcl : c.length ≤ 6) :
    Does Tryz.prog 145 [va, vc] w fun r w' => r = .int .i64 (prodR modR a c) ∧ Still w w' := by
  obtain ⟨ac, cc, hvc⟩ := hC.shape
  rw [List.length_map] at hvc
  subst hvc
  refine Does.enter Tryz.func145 Tryz.ntmps145 rfl (by rfl) ?_
  repeat' (first|refine X.O ?_|refine X.A ?_|refine X.B ?_|refine X.C ?_|refine X.D ?_|refine X.E ?_|refine X.F ?_|refine X.G ?_|refine X.H ?_|refine X.I ?_|fail)
  refine WP.loop (fun (j : Nat) => [(0, va), (5, .int .i64 (valGo a 1 (c.take j))), (8, .slice ac c.length cc), (9, .int .i64 (c.length : Nat)), (10, .int .i64 (j : Nat))])
    (fun j w2 => j ≤ c.length ∧ Still w w2) (fun j => c.length - j) 0 ⟨rfl, rfl, rfl, rfl, rfl, trivial⟩ ⟨by omega, Still.refl _⟩ ?_
  rintro j w2 ⟨hj1, hs2⟩
  have hvb := valGo_bd a (c.take j) 1 (by omega) (by omega)
  repeat' (first|refine X.O ?_|refine X.A ?_|refine X.B ?_|refine X.C ?_|refine X.D ?_|refine X.E ?_|refine X.F ?_|refine X.G ?_|refine X.H ?_|refine X.I ?_|fail)
  first|refine X.J (fun _ => ?_) (fun _ => ?_)|refine X.L (fun _ => ?_) (fun _ => ?_)|refine X.M (fun _ => ?_) (fun _ => ?_)|refine X.R (fun _ => ?_) (fun _ => ?_)|fail
  · rename_i hlt
    have hlj : j < c.length := by omega
    have hkj := hk _ (List.getElem_mem hlj)
    have hab := allN_get haa hkj
    have hst : nm (valGo a 1 (c.take j) * a[c[j]]) = valGo a 1 (c.take (j + 1)) := by
      rw [List.take_succ_eq_append_getElem hlj, valGo_snoc, List.getD_eq_getElem?_getD, List.getElem?_eq_getElem hkj]; rfl
    repeat' (first|refine X.O ?_|refine X.A ?_|refine X.B ?_|refine X.C ?_|refine X.D ?_|refine X.E ?_|refine X.F ?_|refine X.G ?_|refine X.H ?_|refine X.I ?_|fail)
    refine WL.ixload (j := j) (a := (c[j] : Int)) (hC.still RI.stable hs2) (by rw [List.getElem?_map, List.getElem?_eq_getElem hlj]; rfl) ?_
    rintro p _ rfl
    repeat' (first|refine X.O ?_|refine X.A ?_|refine X.B ?_|refine X.C ?_|refine X.D ?_|refine X.E ?_|refine X.F ?_|refine X.G ?_|refine X.H ?_|refine X.I ?_|fail)
    refine WL.ixload (j := c[j]) (hA.still RI.stable hs2) (List.getElem?_eq_getElem hkj) ?_
    rintro p2 _ rfl
    refine WL.step (o_mul (by rfl) (by rfl) (mul_in hvb.1 hvb.2 hab.1 hab.2) ?_)
    refine WL.call (num_any _ _) ?_
    rintro _ _ ⟨rfl, rfl⟩
    rw [hst]
    repeat' (first|refine X.O ?_|refine X.A ?_|refine X.B ?_|refine X.C ?_|refine X.D ?_|refine X.E ?_|refine X.F ?_|refine X.G ?_|refine X.H ?_|refine X.I ?_|fail)
    exact ⟨j + 1, ⟨rfl, rfl, rfl, rfl, (by first|rfl|exact X.T (by omega)), trivial⟩, ⟨by omega, hs2⟩, by omega⟩
  · rename_i hge
    have hje : j = c.length := by omega
    subst hje
    repeat' (first|refine X.O ?_|refine X.A ?_|refine X.B ?_|refine X.C ?_|refine X.D ?_|refine X.E ?_|refine X.F ?_|refine X.G ?_|refine X.H ?_|refine X.I ?_|fail)
    refine ⟨_, ret1 rfl (by rfl), ?_⟩
    exact ⟨by rw [List.take_length, valGo_one], hs2⟩
end Go.Proofs
