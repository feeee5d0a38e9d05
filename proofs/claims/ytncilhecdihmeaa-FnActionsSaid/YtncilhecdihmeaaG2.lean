/- An infinitesimal map that acts on a map: actOn, ActOn, the program's. -/
import Derived.Test.YtncilhecdihmeaaG1
import Derived.Test.YtncilhecdihmeaaF8
set_option maxRecDepth 8000
namespace Go.Rk
open Go.Fw Go.Proofs
def actTerm (b x : List Int) (r : RowD) : Int := match r.2.1 with
  | [k] => nm (r.1 * nm (b.getD k 0 * x.getD r.2.2 0))
  | _ => 0
def actSum (b x : List Int) : List RowD → Int
  | [] => 0
  | r :: rs => actTerm b x r + actSum b x rs
theorem actSum_append (b x : List Int) : ∀ a c, actSum b x (a ++ c) = actSum b x a + actSum b x c
  | [], c => by simp [actSum]
  | r :: a, c => by rw [List.cons_append, actSum, actSum, actSum_append b x a c, Int.add_assoc]
theorem actTerm_bd (b x : List Int) (r : RowD) : 0 ≤ actTerm b x r ∧ actTerm b x r ≤ 10006 := by
  unfold actTerm; split
  · exact nm_bd _
  · omega
theorem actSum_bd (b x : List Int) : ∀ rs, 0 ≤ actSum b x rs ∧ actSum b x rs ≤ 10006 * rs.length
  | [] => by simp [actSum]
  | r :: rs => by
    have h1 := actTerm_bd b x r
    have h2 := actSum_bd b x rs
    rw [actSum, List.length_cons]; omega
theorem actRow_sum (b x : List Int) : ∀ rs, actRow modR b x rs = nm (actSum b x rs)
  | [] => by simp [actRow, actSum, modR, nm]
  | (n, [], t) :: rs => by
    rw [actSum, show actTerm b x (n, [], t) = 0 from rfl, Int.zero_add, ← actRow_sum b x rs]; rfl
  | (n, [k], t) :: rs => by
    have h := actRow_sum b x rs
    show ((n % 10007) * (b.getD k (0 % 10007) * x.getD t (0 % 10007) % 10007) % 10007 + actRow modR b x rs) % 10007 = _
    rw [h]
    show _ = nm (nm (n * nm (b.getD k 0 * x.getD t 0)) + actSum b x rs)
    rw [show (0 : Int) % 10007 = 0 from rfl]
    unfold nm
    rw [Int.add_emod_emod, Int.mul_emod n, Int.mul_emod (n % 10007), Int.emod_emod]
  | (n, k :: k2 :: ks, t) :: rs => by
    rw [actSum, show actTerm b x (n, k :: k2 :: ks, t) = 0 from rfl, Int.zero_add, ← actRow_sum b x rs]; rfl
/-- The table's numbers are small, and its places are places. -/
def cutOk : Bool := cutLit.all fun rs => decide (rs.length ≤ 15) && rs.all fun r => decide (1 ≤ r.1 ∧ r.1 ≤ 100) && decide (r.2.2 < 38) && decide (r.2.1.length ≤ 6) && r.2.1.all fun k => decide (1 ≤ k ∧ k < 38)
theorem cutOk_true : cutOk = true := by kernel_rfl
theorem cutLit_len : cutLit.length = 37 := by kernel_rfl
theorem cutLit_row {rs : List RowD} (h : rs ∈ cutLit) : rs.length ≤ 15 ∧ ∀ r ∈ rs, (1 ≤ r.1 ∧ r.1 ≤ 100) ∧ r.2.2 < 38 ∧ r.2.1.length ≤ 6 ∧ ∀ k ∈ r.2.1, 1 ≤ k ∧ k < 38 := by
  have h1 := List.all_eq_true.1 cutOk_true rs h
  rw [Bool.and_eq_true, decide_eq_true_eq] at h1
  refine ⟨h1.1, fun r hr => ?_⟩
  have h2 := List.all_eq_true.1 h1.2 r hr
  simp only [Bool.and_eq_true, decide_eq_true_eq] at h2
  exact ⟨h2.1.1.1, h2.1.1.2, h2.1.2, fun k hk => of_decide_eq_true (List.all_eq_true.1 h2.2 k hk)⟩
theorem actR_len (b x : List Int) : (actR modR cutLit b x).length = 38 := by unfold actR; rw [List.length_cons, List.length_map, cutLit_len]
theorem actR_get (b x : List Int) {i : Nat} (h : i < cutLit.length) (h2 : i + 1 < (actR modR cutLit b x).length) : (actR modR cutLit b x)[i + 1] = nm (actSum b x cutLit[i]) := by
  simp only [actR, List.getElem_cons_succ, List.getElem_map]
  exact actRow_sum _ _ _
theorem actR_all (b x : List Int) : allN (actR modR cutLit b x) = true := allN_of fun y hy => by
  unfold actR at hy
  rcases List.mem_cons.1 hy with rfl | hy
  · simp [isN, modR]
  · obtain ⟨r, _, rfl⟩ := List.mem_map.1 hy
    rw [actRow_sum]; exact nm_isN _
/-- The code for an infinitesimal map and other maps. -/
def infCode (xss : List (List Int)) (b : List Int) : Int := if xss.all isMap = true then (if b.getD 0 0 ≠ 0 then 5 else 0) else 1
def actOn (b x : List Int) : List Int × Int := if infCode [x, b] b = 0 then (actR modR cutLit b x, 0) else ([], infCode [x, b] b)
theorem actOn_len (b x : List Int) : (actOn b x).1.length ≤ 1000000 := by
  unfold actOn; split
  · show (actR modR cutLit b x).length ≤ _; rw [actR_len]; omega
  · simp
theorem infCode_zero {xss : List (List Int)} {b : List Int} (h : infCode xss b = 0) : (∀ x ∈ xss, isMap x = true) ∧ b.getD 0 0 = 0 := by
  unfold infCode at h
  split at h
  · rename_i h1
    split at h
    · omega
    · rename_i h2; exact ⟨List.all_eq_true.1 h1, by omega⟩
  · omega
theorem mul_in3 {a b : Int} (h0 : 0 ≤ a) (h1 : a ≤ 100) (h2 : 0 ≤ b) (h3 : b ≤ 10006) : InI (a * b) := mul_in h0 (by omega) h2 h3
end Go.Rk
namespace Go.Fw
open Go Go.RowKit Go.Rk
section
variable {P : Program} {N : Nat} {Q : Exit → Fr → World → Prop} {l : Fr} {w : World} {ops : Array Oper} {K : Fr → World → Prop} {S : World → Prop}
/-- A cut in a table that is read: its place, the struct. -/
theorem WL.ixloadRC {lo hi : Nat} {rs : List RowD} {r : RowD} {t t2 e : TypeId} {z z2 : Array Value} {bytes : Nat} [SliceTy3 P t e z bytes] [StructTy P t2 3 z2] {x y : Operand} {kk : IntKind} {i : Int} {j : Nat} {d1 d2 : Nat} {v : Value} {ty1 ty2 : TypeId} {pos1 pos2 : String} {af1 af2 : Array Edge} {x2 : Operand} {rest : List Oper}
    (hs : RC lo hi w v rs) (ha : rs[j]? = some r)
    (k : ∀ p vc, IS lo hi w vc (r.2.1.map fun (k : Nat) => (k : Int)) → WL P N ops Q rest ((d2, .agg #[.int .i64 r.1, vc, .int .i64 (r.2.2 : Nat)]) :: (d1, p) :: l) w) (hx : ev l x = some v := by rfl) (hy : ev l y = some (.int kk i) := by rfl) (hij : i = (j : Int) := by first | rfl | omega) (h2 : x2 = .tmp d1 := by rfl)
    (hd1 : Nat.blt d1 N = true := by rfl) (hd2 : Nat.blt d2 N = true := by rfl) :
    WL P N ops Q (⟨some d1, .indexAddr t x y, ty1, pos1, af1, none⟩ :: ⟨some d2, .load t2 x2, ty2, pos2, af2, none⟩ :: rest) l w := by
  subst h2
  obtain ⟨_, ad, c, rfl, hl, h⟩ := hs
  obtain ⟨b, o, vc, rfl, _, _, hc, hr⟩ := h _ r ha
  have hlt := (List.getElem?_eq_some_iff.1 ha).1
  subst hij
  refine WL.step (o_ix3 hx hy (by omega) (by omega) ?_ rfl hd1)
  rw [Int.toNat_natCast]
  exact WL.step (o_load3 (tr := (.int .i64 r.1, vc, .int .i64 (r.2.2 : Nat))) (look_cons_self _ _ _) hc (k _ vc hr) rfl hd2)
end
end Go.Fw
namespace Go.Proofs
open Go Go.Fw Go.RowKit Go.Rk
set_option maxHeartbeats 1000000 in
theorem actOnL_any {lo hi lb hb lx hx : Nat} {w : World} {vf vb vx : Value} {b x : List Int} (hF : FormsI lo hi w vf) (hB : IS lb hb w vb b) (hX : IS lx hx w vx x) (hbl : b.length = 38) (hxl : x.length = 38) (hba : allN b = true) (hxa : allN x = true) :
    Does Try.prog 45 [vf, vb, vx] w fun r w' => NewI w r w' (actR modR cutLit b x) := by
  obtain ⟨vt, vc, rfl, _, hC⟩ := hF
  have hzC := hC.hi_le
  have hzB := hB.hi_le
  have hzX := hX.hi_le
  obtain ⟨ac, cc, hvc⟩ := hC.shape
  rw [cutLit_len] at hvc
  subst hvc
  have hkl := actR_len b x
  have hkg := fun i h h2 => actR_get b x (i := i) h h2
  have hk0 : (actR modR cutLit b x)[0]'(by omega) = 0 := rfl
  obtain ⟨K, hK⟩ : ∃ K, actR modR cutLit b x = K := ⟨_, rfl⟩
  simp only [hK] at hkl hkg hk0 ⊢
  refine Does.enter Try.func45 Try.ntmps45 rfl (by rfl) ?_
  repeat' (first|refine X.O ?_|refine X.A ?_|refine X.B ?_|refine X.C ?_|refine X.D ?_|refine X.E ?_|refine X.F ?_|refine X.G ?_|refine X.H ?_|refine X.I ?_|fail)
  refine WL.step (o_box (by rfl) ?_)
  intro w1 hb1 hbl1 hz1
  have hb1' : Blk w1 w.heap.size [vt, .slice ac 37 cc] _ := hb1
  repeat' (first|refine X.O ?_|refine X.A ?_|refine X.B ?_|refine X.C ?_|refine X.D ?_|refine X.E ?_|refine X.F ?_|refine X.G ?_|refine X.H ?_|refine X.I ?_|fail)
  refine WL.step (o_lit (us := [.int .i64 0]) (by rfl) (by rfl) rfl (by decide) (one1 rfl) ?_)
  intro v2 w2 hown2 hbl2 hz2 _
  have hown20 : Own w1.heap.size 2 w2 v2 (Ints (K.take 1)) := by rw [Ints_snocG (show 0 < K.length by omega), hk0]; exact hown2
  repeat' (first|refine X.O ?_|refine X.A ?_|refine X.B ?_|refine X.C ?_|refine X.D ?_|refine X.E ?_|refine X.F ?_|refine X.G ?_|refine X.H ?_|refine X.I ?_|fail)
  refine WL.fld (hb1'.below hbl2 (by omega)) ?_
  intro q0
  repeat' (first|refine X.O ?_|refine X.A ?_|refine X.B ?_|refine X.C ?_|refine X.D ?_|refine X.E ?_|refine X.F ?_|refine X.G ?_|refine X.H ?_|refine X.I ?_|fail)
  refine WP.loop (fun (s : Nat × Value) => [(1, vb), (2, vx), (7, s.2), (15, .slice ac 37 cc), (16, .int .i64 37), (17, .int .i64 (s.1 : Nat))])
    (fun s w3 => s.1 ≤ 37 ∧ Own w1.heap.size 2 w3 s.2 (Ints (K.take (s.1 + 1))) ∧ Below w1.heap.size w1 w3)
    (fun s => 37 - s.1) (0, v2) ⟨rfl, rfl, rfl, rfl, rfl, rfl, trivial⟩ ⟨by dsimp only; omega, hown20, hbl2⟩ ?_
  rintro ⟨i, vo⟩ w3 ⟨hi1, hown3, hbl3⟩
  dsimp only at hi1 hown3 ⊢
  have hz3 := hbl3.size
  have hbl03 : Below w.heap.size w w3 := hbl1.trans (Below.mono hbl3 (by omega))
  repeat' (first|refine X.O ?_|refine X.A ?_|refine X.B ?_|refine X.C ?_|refine X.D ?_|refine X.E ?_|refine X.F ?_|refine X.G ?_|refine X.H ?_|refine X.I ?_|fail)
  first|refine X.J (fun _ => ?_) (fun _ => ?_)|refine X.L (fun _ => ?_) (fun _ => ?_)|refine X.M (fun _ => ?_) (fun _ => ?_)|refine X.R (fun _ => ?_) (fun _ => ?_)|fail
  · rename_i hlt
    have hlc : i < cutLit.length := by rw [cutLit_len]; omega
    have hlk : i + 1 < K.length := by omega
    have hkk := hkg i hlc hlk
    obtain ⟨hrl, hrr⟩ := cutLit_row (List.getElem_mem hlc)
    repeat' (first|refine X.O ?_|refine X.A ?_|refine X.B ?_|refine X.C ?_|refine X.D ?_|refine X.E ?_|refine X.F ?_|refine X.G ?_|refine X.H ?_|refine X.I ?_|fail)
    refine WL.ixload (j := i) (hC.below RC.stable hbl03 hzC) (List.getElem?_eq_getElem hlc) ?_
    intro p1 u hu
    obtain ⟨rs, hrs⟩ : ∃ rs, cutLit[i] = rs := ⟨_, rfl⟩
    simp only [hrs] at hrl hrr hkk hu
    obtain ⟨au, cu, hvu⟩ := hu.shape
    subst hvu
    repeat' (first|refine X.O ?_|refine X.A ?_|refine X.B ?_|refine X.C ?_|refine X.D ?_|refine X.E ?_|refine X.F ?_|refine X.G ?_|refine X.H ?_|refine X.I ?_|fail)
    refine WL.step (o_len3 (by rfl) ?_)
    repeat' (first|refine X.O ?_|refine X.A ?_|refine X.B ?_|refine X.C ?_|refine X.D ?_|refine X.E ?_|refine X.F ?_|refine X.G ?_|refine X.H ?_|refine X.I ?_|fail)
    refine WP.loop (fun (j : Nat) => [(1, vb), (2, vx), (7, vo), (10, .int .i64 (actSum b x (rs.take j))), (15, .slice ac 37 cc), (16, .int .i64 37), (17, .int .i64 (i : Nat)), (21, .slice au rs.length cu), (22, .int .i64 (rs.length : Nat)), (23, .int .i64 (j : Nat))])
      (fun j w4 => j ≤ rs.length ∧ Below w3.heap.size w3 w4)
      (fun j => rs.length - j) 0 ⟨rfl, rfl, rfl, rfl, rfl, rfl, rfl, rfl, rfl, rfl, trivial⟩ ⟨by omega, Below.refl _ _⟩ ?_
    rintro j w4 ⟨hj1, hbl4⟩
    have hz4 := hbl4.size
    have hsb := actSum_bd b x (rs.take j)
    have hstl : (rs.take j).length ≤ 15 := by rw [List.length_take]; omega
    repeat' (first|refine X.O ?_|refine X.A ?_|refine X.B ?_|refine X.C ?_|refine X.D ?_|refine X.E ?_|refine X.F ?_|refine X.G ?_|refine X.H ?_|refine X.I ?_|fail)
    first|refine X.J (fun _ => ?_) (fun _ => ?_)|refine X.L (fun _ => ?_) (fun _ => ?_)|refine X.M (fun _ => ?_) (fun _ => ?_)|refine X.R (fun _ => ?_) (fun _ => ?_)|fail
    · rename_i hltj
      have hlj : j < rs.length := by omega
      have hrj := hrr _ (List.getElem_mem hlj)
      have hsn : actSum b x (rs.take (j + 1)) = actSum b x (rs.take j) + actTerm b x rs[j] := by rw [List.take_succ_eq_append_getElem hlj, actSum_append]; simp [actSum]
      have htb := actTerm_bd b x rs[j]
      repeat' (first|refine X.O ?_|refine X.A ?_|refine X.B ?_|refine X.C ?_|refine X.D ?_|refine X.E ?_|refine X.F ?_|refine X.G ?_|refine X.H ?_|refine X.I ?_|fail)
      refine WL.ixloadRC (j := j) ((RC.stable).1 _ _ _ _ _ _ (Same.of_below hbl4 (by omega)) (by omega) hu) (List.getElem?_eq_getElem hlj) ?_
      intro p2 vk hvk
      obtain ⟨⟨rn, rc, rt⟩, hrE⟩ : ∃ r, rs[j] = r := ⟨_, rfl⟩
      rw [hrE] at hrj hsn htb hvk ⊢
      dsimp only at hrj hvk ⊢
      obtain ⟨ak, ck, hvke⟩ := hvk.shape
      rw [List.length_map] at hvke
      subst hvke
      refine WL.var (vs := [.int .i64 rn, .slice ak rc.length ck, .int .i64 (rt : Nat)]) (fun _ => by rfl) (by rfl) (fun y hy => by
        simp only [List.mem_cons, List.not_mem_nil, or_false] at hy
        rcases hy with rfl | rfl | rfl <;> rfl) ?_
      intro w5 hb5 hbl5 hz5
      have hvk5 := hvk.below RI.stable hbl5 (by omega)
      have hbl35 : Below w3.heap.size w3 w5 := hbl4.trans (Below.mono hbl5 (by omega))
      have hbl05 : Below w.heap.size w w5 := hbl03.trans (Below.mono hbl35 (by omega))
      repeat' (first|refine X.O ?_|refine X.A ?_|refine X.B ?_|refine X.C ?_|refine X.D ?_|refine X.E ?_|refine X.F ?_|refine X.G ?_|refine X.H ?_|refine X.I ?_|fail)
      refine WL.fld hb5 ?_
      intro q1
      repeat' (first|refine X.O ?_|refine X.A ?_|refine X.B ?_|refine X.C ?_|refine X.D ?_|refine X.E ?_|refine X.F ?_|refine X.G ?_|refine X.H ?_|refine X.I ?_|fail)
      first|refine X.J (fun _ => ?_) (fun _ => ?_)|refine X.L (fun _ => ?_) (fun _ => ?_)|refine X.M (fun _ => ?_) (fun _ => ?_)|refine X.R (fun _ => ?_) (fun _ => ?_)|fail
      · rename_i hone
        obtain ⟨k, hk⟩ : ∃ k, rc = [k] := by
          match rc, hone with
          | [k], _ => exact ⟨k, rfl⟩
          | [], h => simp at h
          | _ :: _ :: _, h => simp at h; omega
        subst hk
        have hkb := hrj.2.2.2 k (by simp)
        have hlkb : k < b.length := by omega
        have hltx : rt < x.length := by omega
        have hbb := allN_get hba hlkb
        have hxb := allN_get hxa hltx
        have hte : actTerm b x (rn, [k], rt) = nm (rn * nm (b[k] * x[rt])) := by
          show nm (rn * nm (b.getD k 0 * x.getD rt 0)) = _
          rw [List.getD_eq_getElem?_getD, List.getD_eq_getElem?_getD, List.getElem?_eq_getElem hlkb, List.getElem?_eq_getElem hltx]; rfl
        repeat' (first|refine X.O ?_|refine X.A ?_|refine X.B ?_|refine X.C ?_|refine X.D ?_|refine X.E ?_|refine X.F ?_|refine X.G ?_|refine X.H ?_|refine X.I ?_|fail)
        refine WP.drawn (fun w' => w'.heap = w5.heap) [(0, true), (1, true), (2, true), (3, true), (4, true), (5, true), (6, true), (7, true), (8, true), (9, true), (10, true), (11, true), (12, true), (13, true), (14, true), (15, true), (16, false), (17, true), (18, false), (19, true), (20, true)] (by kernel_rfl) mixed ?_
        intro w6 hs6
        have hw6 : w6.heap = w5.heap := hs6.heap
        have hbE : ∀ w', w'.heap = w5.heap → Blk w' w4.heap.size [.int .i64 rn, .slice ak [k].length ck, .int .i64 (rt : Nat)] 73 := fun w' h => hb5.keep (by rw [h])
        repeat' (first|refine X.U rfl ?_|refine X.V rfl ?_|refine X.W rfl ?_|refine X.Y rfl ?_|refine X.Z rfl ?_|refine WS.nil ?_|fail)
        refine WS.fld rfl rfl hbE hw6 ?_
        intro q2
        repeat' (first|refine X.U rfl ?_|refine X.V rfl ?_|refine X.W rfl ?_|refine X.Y rfl ?_|refine X.Z rfl ?_|refine WS.nil ?_|fail)
        refine WS.fld rfl rfl hbE hw6 ?_
        intro q3
        refine WS.ixload (j := 0) rfl rfl (hvk5.still RI.stable hs6) (a := (k : Int)) (by rfl) (fun w' hw' => same_heap (hw'.trans hw6.symm)) hw6 ?_
        rintro q4 _ rfl
        refine WS.ixload (j := k) rfl rfl ((hB.below RI.stable hbl05 hzB).still RI.stable hs6) (List.getElem?_eq_getElem hlkb) (fun w' hw' => same_heap (hw'.trans hw6.symm)) hw6 ?_
        rintro q5 _ rfl
        repeat' (first|refine X.U rfl ?_|refine X.V rfl ?_|refine X.W rfl ?_|refine X.Y rfl ?_|refine X.Z rfl ?_|refine WS.nil ?_|fail)
        refine WS.fld rfl rfl hbE hw6 ?_
        intro q6
        refine WS.ixload (j := rt) rfl rfl ((hX.below RI.stable hbl05 hzX).still RI.stable hs6) (List.getElem?_eq_getElem hltx) (fun w' hw' => same_heap (hw'.trans hw6.symm)) hw6 ?_
        rintro q7 _ rfl
        refine WS.q rfl (q_mul (by rfl) (by rfl) (mul_in hbb.1 hbb.2 hxb.1 hxb.2)) hw6 ?_
        refine WS.call rfl (num_any _ _) ?_
        rintro _ _ ⟨rfl, rfl⟩
        refine ⟨hw6, ?_⟩
        have hn1 := nm_bd (b[k] * x[rt])
        refine WS.q rfl (q_mul (by rfl) (by rfl) (mul_in3 (by omega) hrj.1.2 hn1.1 hn1.2)) hw6 ?_
        refine WS.call rfl (num_any _ _) ?_
        rintro _ _ ⟨rfl, rfl⟩
        refine ⟨hw6, ?_⟩
        have hn2 := nm_bd (rn * nm (b[k] * x[rt]))
        repeat' (first|refine X.U rfl ?_|refine X.V rfl ?_|refine X.W rfl ?_|refine X.Y rfl ?_|refine X.Z rfl ?_|refine WS.nil ?_|fail)
        rw [hte] at hsn
        repeat' (first|refine X.O ?_|refine X.A ?_|refine X.B ?_|refine X.C ?_|refine X.D ?_|refine X.E ?_|refine X.F ?_|refine X.G ?_|refine X.H ?_|refine X.I ?_|fail)
        exact ⟨j + 1, ⟨rfl, rfl, rfl, (by rw [hsn]; rfl), rfl, rfl, rfl, rfl, rfl, (by first|rfl|exact X.T (by omega)), trivial⟩, ⟨by omega, hbl35.trans (hs6.below _)⟩, by omega⟩
      · rename_i hone
        have hte : actTerm b x (rn, rc, rt) = 0 := by
          match rc, hone with
          | [k], h => exact absurd rfl h
          | [], _ => rfl
          | _ :: _ :: _, _ => rfl
        rw [hte, Int.add_zero] at hsn
        repeat' (first|refine X.O ?_|refine X.A ?_|refine X.B ?_|refine X.C ?_|refine X.D ?_|refine X.E ?_|refine X.F ?_|refine X.G ?_|refine X.H ?_|refine X.I ?_|fail)
        exact ⟨j + 1, ⟨rfl, rfl, rfl, (by rw [hsn]; rfl), rfl, rfl, rfl, rfl, rfl, (by first|rfl|exact X.T (by omega)), trivial⟩, ⟨by omega, hbl35⟩, by omega⟩
    · rename_i hgej
      have hje : j = rs.length := by omega
      subst hje
      rw [List.take_length] at hsb ⊢
      repeat' (first|refine X.O ?_|refine X.A ?_|refine X.B ?_|refine X.C ?_|refine X.D ?_|refine X.E ?_|refine X.F ?_|refine X.G ?_|refine X.H ?_|refine X.I ?_|fail)
      refine WL.call (num_any _ _) ?_
      rintro _ _ ⟨rfl, rfl⟩
      refine o_append1 (u := .int .i64 (nm (actSum b x rs))) (fun _ => by rfl) (by rfl) (hown3.below hbl4 (Nat.le_refl _)) rfl (by rw [Ints_length, List.length_take]; unfold maxLen; omega) (by rw [Ints_length, List.length_take]; omega) (by omega) ?_
      intro p3 v6 w6 hown6 hbl6 _ hz6 _
      rw [← hkk, ← Ints_snocG hlk] at hown6
      repeat' (first|refine X.O ?_|refine X.A ?_|refine X.B ?_|refine X.C ?_|refine X.D ?_|refine X.E ?_|refine X.F ?_|refine X.G ?_|refine X.H ?_|refine X.I ?_|fail)
      exact ⟨(i + 1, v6), ⟨rfl, rfl, rfl, rfl, rfl, (by first|rfl|exact X.T (by omega)), trivial⟩, ⟨by dsimp only; omega, hown6, (hbl3.trans (Below.mono hbl4 (by omega))).trans hbl6⟩, by dsimp only; omega⟩
  · rename_i hge
    have hie : i = 37 := by omega
    subst hie
    rw [List.take_of_length_le (by omega)] at hown3
    repeat' (first|refine X.O ?_|refine X.A ?_|refine X.B ?_|refine X.C ?_|refine X.D ?_|refine X.E ?_|refine X.F ?_|refine X.G ?_|refine X.H ?_|refine X.I ?_|fail)
    refine ⟨_, ret1 rfl (by rfl), ?_⟩
    exact ⟨hown3.lower (by omega), hbl03⟩
theorem checkInf_any {lo lb hb : Nat} {w : World} {vb vo : Value} {us : List Value} {xss : List (List Int)} {b : List Int} (hO : Own lo 22 w vo us) (hl : us.length = xss.length) (hn : xss.length ≤ 1000)
    (hr : ∀ (i : Nat) u xs, us[i]? = some u → xss[i]? = some xs → ∃ la ha, ha ≤ lo ∧ IS la ha w u xs) (hB : IS lb hb w vb b) (hhb : hb ≤ lo) (hlo : lo ≤ w.heap.size) :
    Does Try.prog 44 [vb, vo] w fun r w' => r = .int .i64 (infCode (xss ++ [b]) b) ∧ Below lo w w' := by
  obtain ⟨ab, cb, hvb⟩ := hB.shape
  refine Does.enter Try.func44 Try.ntmps44 rfl (by rfl) ?_
  repeat' (first|refine X.O ?_|refine X.A ?_|refine X.B ?_|refine X.C ?_|refine X.D ?_|refine X.E ?_|refine X.F ?_|refine X.G ?_|refine X.H ?_|refine X.I ?_|fail)
  refine o_append1 (u := vb) (fun _ => by rfl) (by rfl) hO (by rw [hvb]; rfl) (by unfold maxLen; omega) (by omega) (by omega) ?_
  intro p1 v1 w1 hown1 hbl1 hf1 hz1 _
  have hul : (us ++ [vb]).length = (xss ++ [b]).length := by simp [hl]
  have hr1 : ∀ (i : Nat) u xs, (us ++ [vb])[i]? = some u → (xss ++ [b])[i]? = some xs → ∃ la ha, ha ≤ lo ∧ IS la ha w1 u xs := fun i u xs hu hx => by
    rw [List.getElem?_append] at hu hx
    rw [← hl] at hx
    split at hu
    · rename_i hi; rw [if_pos hi] at hx
      obtain ⟨la, ha, h1, h2⟩ := hr i u xs hu hx
      exact ⟨la, ha, h1, h2.below RI.stable hbl1 h1⟩
    · rename_i hi
      rw [if_neg hi] at hx
      rcases Nat.eq_zero_or_pos (i - us.length) with h0 | h0
      · rw [h0] at hu hx; simp at hu hx; subst hu hx
        exact ⟨lb, hb, hhb, hB.below RI.stable hbl1 hhb⟩
      · rw [List.getElem?_eq_none (by simp; omega)] at hu; cases hu
  obtain ⟨a1, c1, hv1, _⟩ := hown1.shape
  have hlast : (xss ++ [b]).getLast? = some b := by simp
  obtain ⟨XS, hX⟩ : ∃ XS, xss ++ [b] = XS := ⟨_, rfl⟩
  obtain ⟨U, hU⟩ : ∃ U, us ++ [vb] = U := ⟨_, rfl⟩
  rw [hX, hU] at hr1 hul
  rw [hU] at hown1 hv1
  rw [hX] at hlast ⊢
  have hXl : XS.length ≤ 1001 := by rw [← hX]; simp; omega
  rw [hul] at hv1
  subst hv1
  have hS : SL (fun _ _ _ u x => u = x) lo w1.heap.size w1 (.slice a1 XS.length c1) U := by
    rw [← hul] at hown1 ⊢
    exact hown1.toSL rfl (Nat.le_refl _) (fun k hk => (hown1.block k hk).2) (Nat.le_refl _) fun i u x hu hx => by rw [hu] at hx; simpa using hx
  have hSs : Stable (fun (_ _ : Nat) (_ : World) (u x : Value) => u = x) := ⟨fun _ _ _ _ _ _ _ _ h => h, fun _ _ _ _ _ _ _ _ _ _ h => h⟩
  repeat' (first|refine X.O ?_|refine X.A ?_|refine X.B ?_|refine X.C ?_|refine X.D ?_|refine X.E ?_|refine X.F ?_|refine X.G ?_|refine X.H ?_|refine X.I ?_|fail)
  refine WP.loop (fun (i : Nat) => [(0, vb), (10, .slice a1 XS.length c1), (11, .int .i64 (XS.length : Nat)), (12, .int .i64 (i : Nat))])
    (fun i w2 => i ≤ XS.length ∧ (XS.take i).all isMap = true ∧ Still w1 w2)
    (fun i => XS.length - i) 0 ⟨rfl, rfl, rfl, rfl, trivial⟩ ⟨by omega, rfl, Still.refl _⟩ ?_
  rintro i w2 ⟨hi1, hall, hs2⟩
  repeat' (first|refine X.O ?_|refine X.A ?_|refine X.B ?_|refine X.C ?_|refine X.D ?_|refine X.E ?_|refine X.F ?_|refine X.G ?_|refine X.H ?_|refine X.I ?_|fail)
  first|refine X.J (fun _ => ?_) (fun _ => ?_)|refine X.L (fun _ => ?_) (fun _ => ?_)|refine X.M (fun _ => ?_) (fun _ => ?_)|refine X.R (fun _ => ?_) (fun _ => ?_)|fail
  · rename_i hlt
    have hli : i < XS.length := by omega
    have hlu : i < U.length := by omega
    obtain ⟨la, ha, h1, h2⟩ := hr1 i _ _ (List.getElem?_eq_getElem hlu) (List.getElem?_eq_getElem hli)
    repeat' (first|refine X.O ?_|refine X.A ?_|refine X.B ?_|refine X.C ?_|refine X.D ?_|refine X.E ?_|refine X.F ?_|refine X.G ?_|refine X.H ?_|refine X.I ?_|fail)
    refine WL.ixload (j := i) (hS.still hSs hs2) (List.getElem?_eq_getElem hlu) ?_
    rintro p2 _ rfl
    repeat' (first|refine X.O ?_|refine X.A ?_|refine X.B ?_|refine X.C ?_|refine X.D ?_|refine X.E ?_|refine X.F ?_|refine X.G ?_|refine X.H ?_|refine X.I ?_|fail)
    refine WL.call (IsMap_any (h2.still RI.stable hs2)) ?_
    rintro _ w3 ⟨rfl, hs3⟩
    repeat' (first|refine X.O ?_|refine X.A ?_|refine X.B ?_|refine X.C ?_|refine X.D ?_|refine X.E ?_|refine X.F ?_|refine X.G ?_|refine X.H ?_|refine X.I ?_|fail)
    first|refine X.J (fun _ => ?_) (fun _ => ?_)|refine X.L (fun _ => ?_) (fun _ => ?_)|refine X.M (fun _ => ?_) (fun _ => ?_)|refine X.R (fun _ => ?_) (fun _ => ?_)|fail
    · rename_i hf
      repeat' (first|refine X.O ?_|refine X.A ?_|refine X.B ?_|refine X.C ?_|refine X.D ?_|refine X.E ?_|refine X.F ?_|refine X.G ?_|refine X.H ?_|refine X.I ?_|fail)
      refine ⟨_, ret1 rfl (by rfl), ?_⟩
      refine ⟨congrArg (Value.int .i64) ?_, hbl1.trans ((hs2.trans hs3).below _)⟩
      unfold infCode
      rw [if_neg (fun h => by rw [List.all_eq_true.1 h _ (List.getElem_mem hli)] at hf; cases hf)]
    · rename_i ht
      have hall2 : (XS.take (i + 1)).all isMap = true := by rw [List.take_succ_eq_append_getElem hli, List.all_append, hall]; simp [ht]
      repeat' (first|refine X.O ?_|refine X.A ?_|refine X.B ?_|refine X.C ?_|refine X.D ?_|refine X.E ?_|refine X.F ?_|refine X.G ?_|refine X.H ?_|refine X.I ?_|fail)
      exact ⟨i + 1, ⟨rfl, rfl, rfl, (by first|rfl|exact X.T (by omega)), trivial⟩, ⟨by omega, hall2, hs2.trans hs3⟩, by omega⟩
  · rename_i hge
    have hie : i = XS.length := by omega
    subst hie
    rw [List.take_length] at hall
    have hbm : isMap b = true := List.all_eq_true.1 hall b (List.mem_of_getLast? hlast)
    have hb0 : 0 < b.length := by rw [isMap_38 hbm]; omega
    have hg0 : b.getD 0 0 = b[0] := by rw [List.getD_eq_getElem?_getD, List.getElem?_eq_getElem hb0]; rfl
    repeat' (first|refine X.O ?_|refine X.A ?_|refine X.B ?_|refine X.C ?_|refine X.D ?_|refine X.E ?_|refine X.F ?_|refine X.G ?_|refine X.H ?_|refine X.I ?_|fail)
    refine WL.ixload (j := 0) ((hB.below RI.stable hbl1 hhb).still RI.stable hs2) (List.getElem?_eq_getElem hb0) ?_
    rintro p3 _ rfl
    repeat' (first|refine X.O ?_|refine X.A ?_|refine X.B ?_|refine X.C ?_|refine X.D ?_|refine X.E ?_|refine X.F ?_|refine X.G ?_|refine X.H ?_|refine X.I ?_|fail)
    first|refine X.J (fun _ => ?_) (fun _ => ?_)|refine X.L (fun _ => ?_) (fun _ => ?_)|refine X.M (fun _ => ?_) (fun _ => ?_)|refine X.R (fun _ => ?_) (fun _ => ?_)|fail
    · rename_i hne
      repeat' (first|refine X.O ?_|refine X.A ?_|refine X.B ?_|refine X.C ?_|refine X.D ?_|refine X.E ?_|refine X.F ?_|refine X.G ?_|refine X.H ?_|refine X.I ?_|fail)
      refine ⟨_, ret1 rfl (by rfl), ?_⟩
      exact ⟨by unfold infCode; rw [if_pos hall, hg0, if_pos hne], hbl1.trans (hs2.below _)⟩
    · rename_i hne
      repeat' (first|refine X.O ?_|refine X.A ?_|refine X.B ?_|refine X.C ?_|refine X.D ?_|refine X.E ?_|refine X.F ?_|refine X.G ?_|refine X.H ?_|refine X.I ?_|fail)
      refine ⟨_, ret1 rfl (by rfl), ?_⟩
      exact ⟨by unfold infCode; rw [if_pos hall, hg0, if_neg hne], hbl1.trans (hs2.below _)⟩
theorem ActOn_any {lb hb lx hx : Nat} {w : World} {vb vx : Value} {b x : List Int} (hB : IS lb hb w vb b) (hX : IS lx hx w vx x) :
    Does Try.prog 24 [vb, vx] w fun r w' => ResI w r w' (actOn b x) := by
  have hzB := hB.hi_le
  have hzX := hX.hi_le
  obtain ⟨ax, cx, hvx⟩ := hX.shape
  refine Does.enter Try.func24 Try.ntmps24 rfl (by rfl) ?_
  repeat' (first|refine X.O ?_|refine X.A ?_|refine X.B ?_|refine X.C ?_|refine X.D ?_|refine X.E ?_|refine X.F ?_|refine X.G ?_|refine X.H ?_|refine X.I ?_|fail)
  refine WL.step (o_lit (us := [vx]) (by rfl) (by rfl) rfl (by decide) (one1 (by rw [hvx]; rfl)) ?_)
  intro v1 w1 hown1 hbl1 hz1 _
  refine WL.call (checkInf_any (xss := [x]) hown1 rfl (by simp) (fun i u xs hu hxs => by
    match i, hu, hxs with
    | 0, hu, hxs => simp at hu hxs; subst hu hxs; exact ⟨lx, hx, hzX, hX.below RI.stable hbl1 hzX⟩) (hB.below RI.stable hbl1 hzB) hzB (by omega)) ?_
  rintro _ w2 ⟨rfl, hbl2⟩
  have hbl02 : Below w.heap.size w w2 := hbl1.trans hbl2
  have hz2 := hbl02.size
  have hbr : [x] ++ [b] = [x, b] := rfl
  rw [hbr]
  by_cases hc : infCode [x, b] b = 0
  · obtain ⟨hm, _⟩ := infCode_zero hc
    have hmx := hm x (by simp)
    have hmb := hm b (by simp)
    rw [hc]
    repeat' (first|refine X.O ?_|refine X.A ?_|refine X.B ?_|refine X.C ?_|refine X.D ?_|refine X.E ?_|refine X.F ?_|refine X.G ?_|refine X.H ?_|refine X.I ?_|fail)
    refine WL.call (newForms_any _) ?_
    rintro v3 w3 ⟨hF, hbl3⟩
    have hbl03 : Below w.heap.size w w3 := hbl02.trans (Below.mono hbl3 (by omega))
    repeat' (first|refine X.O ?_|refine X.A ?_|refine X.B ?_|refine X.C ?_|refine X.D ?_|refine X.E ?_|refine X.F ?_|refine X.G ?_|refine X.H ?_|refine X.I ?_|fail)
    refine WL.call (actOnL_any hF (hB.below RI.stable hbl03 hzB) (hX.below RI.stable hbl03 hzX) (isMap_38 hmb) (isMap_38 hmx) (isMap_all hmb) (isMap_all hmx)) ?_
    intro v4 w4 hN4
    repeat' (first|refine X.O ?_|refine X.A ?_|refine X.B ?_|refine X.C ?_|refine X.D ?_|refine X.E ?_|refine X.F ?_|refine X.G ?_|refine X.H ?_|refine X.I ?_|fail)
    refine ⟨_, ret2 rfl (by rfl) (by rfl), ?_⟩
    have e : actOn b x = (actR modR cutLit b x, 0) := by unfold actOn; rw [if_pos hc]
    rw [e]
    exact ⟨v4, rfl, hN4.trans hbl03⟩
  · repeat' (first|refine X.O ?_|refine X.A ?_|refine X.B ?_|refine X.C ?_|refine X.D ?_|refine X.E ?_|refine X.F ?_|refine X.G ?_|refine X.H ?_|refine X.I ?_|fail)
    first|refine X.J (fun _ => ?_) (fun _ => ?_)|refine X.L (fun _ => ?_) (fun _ => ?_)|refine X.M (fun _ => ?_) (fun _ => ?_)|refine X.R (fun _ => ?_) (fun _ => ?_)|fail
    · repeat' (first|refine X.O ?_|refine X.A ?_|refine X.B ?_|refine X.C ?_|refine X.D ?_|refine X.E ?_|refine X.F ?_|refine X.G ?_|refine X.H ?_|refine X.I ?_|fail)
      refine ⟨_, ret2 rfl (by rfl) (by rfl), ?_⟩
      have e : actOn b x = ([], infCode [x, b] b) := by unfold actOn; rw [if_neg hc]
      rw [e]
      exact ResI.none _ _ hbl02 _
    · rename_i hbad
      exact absurd (by simpa using hbad) hc
end Go.Proofs
