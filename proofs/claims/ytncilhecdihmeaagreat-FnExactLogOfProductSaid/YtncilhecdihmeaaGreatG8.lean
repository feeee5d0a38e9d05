/- The reference's cuts of trees: l05Times, l05Forest, l05Tree, l05Cuts. -/
import Derived.Test.YtncilhecdihmeaaGreatG7
set_option maxRecDepth 8000
namespace Go.Fw
open Go Go.RowKit
section
variable {P : Program} {N : Nat} {Q : Exit → Fr → World → Prop} {S : World → Prop} {l : Fr} {w : World} {ops : Array Oper} {sc : List (Nat × Bool)}
/-- x[i].f of a slice of structs, in a drawn region. -/
theorem WS.ixfld3 {m m' m2 : Nat} {t t2 s e : TypeId} {z : Array Value} {bytes f off : Nat} [SliceTy3 P t e z bytes] [FieldTy P s f off] [CellTy P t2] {x y : Operand} {kk : IntKind} {i : Int} {j : Nat} {d1 d2 d3 lo : Nat} {e' : TypeId} {v u : Value} {ts : List Tri} {tr : Tri} {ty1 ty2 ty3 : TypeId} {pos1 pos2 pos3 : String} {af1 af2 af3 : Array Edge} {x2 x3 : Operand}
    (hi1 : ops[m]? = some ⟨some d1, .indexAddr t x y, ty1, pos1, af1, none⟩) (hi2 : ops[m']? = some ⟨some d2, .fieldAddr s x2 f, ty2, pos2, af2, none⟩) (hi3 : ops[m2]? = some ⟨some d3, .load t2 x3, ty3, pos3, af3, none⟩)
    (hs : ∀ w', S w' → Own3 lo e' w' v ts) (ha : ts[j]? = some tr) (hf : tr.cells[off]? = some u) (hS : S w)
    (k : ∀ p q, WS P N ops Q S sc ((d3, u) :: (d2, q) :: (d1, p) :: l) w) (hx : ev l x = some v := by rfl) (hy : ev l y = some (.int kk i) := by rfl) (hij : i = (j : Int) := by first | rfl | omega) (h2 : x2 = .tmp d1 := by rfl) (h3 : x3 = .tmp d2 := by rfl)
    (hd1 : Nat.blt d1 N = true := by rfl) (hd2 : Nat.blt d2 N = true := by rfl) (hd3 : Nat.blt d3 N = true := by rfl) :
    WS P N ops Q S ((m, true) :: (m', true) :: (m2, true) :: sc) l w := by
  subst h2 h3
  obtain ⟨g, c, rfl, _, _, _, _, _⟩ := (hs w hS).place ha
  have hlt := (List.getElem?_eq_some_iff.1 ha).1
  subst hij
  refine WS.q hi1 (q_ix3 hx hy (by omega) (by omega) rfl hd1) hS ?_
  rw [Nat.zero_add, Int.toNat_natCast]
  refine WS.q hi2 (q_field (look_cons_self _ _ _) rfl hd2) hS ?_
  have e1 : (⟨g, j * 3, none⟩ : Addr).add off = ⟨g, j * 3 + off, none⟩ := by unfold Addr.add; split <;> simp_all
  rw [e1]
  refine WS.q hi3 (q_load (look_cons_self _ _ _) (fun w' hw' => ?_) rfl hd3) hS (k _ _)
  obtain ⟨g', c', hv', _, _, hcell, _, _⟩ := (hs w' hw').place ha
  simp only [Value.slice.injEq, Option.some.injEq, Addr.mk.injEq] at hv'
  obtain ⟨⟨rfl, _⟩, _, _⟩ := hv'
  exact hcell off u hf
end
end Go.Fw
namespace Go.Rk
open Go.Fw Go.Proofs
theorem POk.len {n : Nat} {s : SplD} (h : POk n s) (hn : n ≤ 8) : s.1.length ≤ 8 ∧ s.2.1.length ≤ 8 ∧ (∀ b ∈ s.1, b.length ≤ 1000000) ∧ (∀ b ∈ s.2.1, b.length ≤ 1000000) ∧ s.1.flatten.length ≤ 8 ∧ s.2.1.flatten.length ≤ 8 := by
  have h1 := Lv.le_flat h.c
  have h2 := Lv.le_flat h.t
  have h3 := h.n
  exact ⟨by omega, by omega, fun b hb => by have := mem_le_flat hb; omega, fun b hb => by have := mem_le_flat hb; omega, by omega, by omega⟩
/-- What l05Put asks of a list. -/
theorem put_pre {n : Nat} {l : List SplD} (h : ∀ s ∈ l, POk n s) (hn : n ≤ 8) (ht : tot l ≤ 100000) : l.length ≤ 100000 ∧ ∀ y ∈ l, (0 ≤ y.2.2 ∧ y.2.2 ≤ 1000000) ∧ y.1.flatten.length ≤ 1000000000 := by
  obtain ⟨h1, h2⟩ := tot_len h
  refine ⟨by omega, fun y hy => ⟨⟨by have := (h y hy).pos; omega, by have := h2 y hy; omega⟩, by have := ((h y hy).len hn).2.2.2.2.1; omega⟩⟩
theorem tot_nonneg {n : Nat} {l : List SplD} (h : ∀ s ∈ l, POk n s) : 0 ≤ tot l := by have := (tot_len h).1; omega
theorem tot_take {n : Nat} {l : List SplD} (h : ∀ s ∈ l, POk n s) (i : Nat) : tot (l.take i) ≤ tot l ∧ 0 ≤ tot (l.take i) := by
  have e : tot l = tot (l.take i) + tot (l.drop i) := by rw [← tot_append, List.take_append_drop]
  have h1 := tot_nonneg (l := l.drop i) fun s hs => h s (List.mem_of_mem_drop hs)
  have h2 := tot_nonneg (l := l.take i) fun s hs => h s (List.mem_of_mem_take hs)
  omega
end Go.Rk
namespace Go.Proofs
open Go Go.Fw Go.RowKit Go.Rk
set_option maxHeartbeats 2000000 in
theorem l05Times_any {la lb m n : Nat} {w : World} {va vb : Value} {ta tb : List Tri} {a b : List SplD} (hA : Own3 la 111 w va ta) (hxA : SplG w ta a) (hB : Own3 lb 111 w vb tb) (hxB : SplG w tb b)
    (hok : ∀ s ∈ a, POk m s) (hokb : ∀ s ∈ b, POk n s) (hmn : m + n ≤ 8) (hta : tot a ≤ 256) (htb : tot b ≤ 256) :
    Does Tryz.prog 190 [va, vb] w fun r w' => (∃ ts', Own3 w.heap.size 111 w' r ts' ∧ SplG w' ts' (timesS a b)) ∧ Below w.heap.size w w' := by
  obtain ⟨aa, ca, hva, _⟩ := hA.shape
  obtain ⟨ab, cb, hvb, _⟩ := hB.shape
  have hla := hxA.1
  have hlb := hxB.1
  have hta0 := tot_nonneg hok
  have htb0 := tot_nonneg hokb
  obtain ⟨hta1, hta2⟩ := tot_len hok
  obtain ⟨htb1, htb2⟩ := tot_len hokb
  have h64 : tot a * tot b ≤ 256 * 256 := Int.mul_le_mul hta htb htb0 (by omega)
  have hst : ∀ i, (∀ s ∈ timesS (a.take i) b, POk (m + n) s) ∧ tot (timesS (a.take i) b) ≤ 65536 := fun i => by
    have h1 := timesS_ok (a := a.take i) (b := b) (fun s hs => hok s (List.mem_of_mem_take hs)) hokb
    obtain ⟨h2, h3⟩ := tot_take hok i
    have := Int.mul_le_mul (Int.le_trans h2 hta) htb htb0 (by omega)
    exact ⟨h1.1, by rw [h1.2]; omega⟩
  refine Does.enter Tryz.func190 Tryz.ntmps190 rfl (by rfl) ?_
  rw [hva, hvb]
  repeat' (first|refine X.O ?_|refine X.A ?_|refine X.B ?_|refine X.C ?_|refine X.D ?_|refine X.E ?_|refine X.F ?_|refine X.G ?_|refine X.H ?_|refine X.I ?_|fail)
  refine WL.step (o_lit30 ?_)
  intro v1 w1 hown1 hbl1 hz1
  repeat' (first|refine X.O ?_|refine X.A ?_|refine X.B ?_|refine X.C ?_|refine X.D ?_|refine X.E ?_|refine X.F ?_|refine X.G ?_|refine X.H ?_|refine X.I ?_|fail)
  refine WP.loop (fun (s : Nat × Value) => [(0, .slice aa ta.length ca), (1, .slice ab tb.length cb), (5, s.2), (6, .int .i64 (s.1 : Nat))])
    (fun s w2 => s.1 ≤ a.length ∧ (∃ to, Own3 w.heap.size 111 w2 s.2 to ∧ SplG w2 to (timesS (a.take s.1) b)) ∧ Below w.heap.size w w2)
    (fun s => a.length - s.1) (0, v1) ⟨rfl, rfl, rfl, rfl, trivial⟩ ⟨by dsimp only; omega, ⟨[], hown1, SplG.nil _⟩, hbl1⟩ ?_
  rintro ⟨i, vo⟩ w2 ⟨hi1, ⟨to, oo, hAo⟩, hbl2⟩
  dsimp only at hi1 oo hAo ⊢
  have hz2 := hbl2.size
  repeat' (first|refine X.O ?_|refine X.A ?_|refine X.B ?_|refine X.C ?_|refine X.D ?_|refine X.E ?_|refine X.F ?_|refine X.G ?_|refine X.H ?_|refine X.I ?_|fail)
  refine WL.step (o_len3 (by rfl) ?_)
  repeat' (first|refine X.O ?_|refine X.A ?_|refine X.B ?_|refine X.C ?_|refine X.D ?_|refine X.E ?_|refine X.F ?_|refine X.G ?_|refine X.H ?_|refine X.I ?_|fail)
  first|refine X.J (fun _ => ?_) (fun _ => ?_)|refine X.L (fun _ => ?_) (fun _ => ?_)|refine X.M (fun _ => ?_) (fun _ => ?_)|refine X.R (fun _ => ?_) (fun _ => ?_)|fail
  · rename_i hlt
    have hli : i < a.length := by omega
    have hlit : i < ta.length := by omega
    have hokx := hok _ (List.getElem_mem hli)
    have htx := hta2 _ (List.getElem_mem hli)
    have hts := timesS_succ (b := b) hli
    obtain ⟨x, hxE⟩ : ∃ x, a[i] = x := ⟨_, rfl⟩
    rw [hxE] at hokx htx hts
    have hin : ∀ j, (∀ s ∈ timesRow x (b.take j) (timesS (a.take i) b), POk (m + n) s) ∧ tot (timesRow x (b.take j) (timesS (a.take i) b)) ≤ 100000 * 2 := fun j => by
      have h1 := timesRow_ok hokx (b.take j) _ (fun s hs => hokb s (List.mem_of_mem_take hs)) (hst i).1
      obtain ⟨h2, h3⟩ := tot_take hokb j
      have := Int.mul_le_mul (Int.le_trans htx hta) (Int.le_trans h2 htb) h3 (by omega)
      exact ⟨h1.1, by rw [h1.2]; have := (hst i).2; omega⟩
    have hin2 : ∀ j, tot (timesRow x (b.take j) (timesS (a.take i) b)) ≤ 65536 := fun j => by
      have h1 := timesRow_ok hokx (b.take j) _ (fun s hs => hokb s (List.mem_of_mem_take hs)) (hst i).1
      have h2 := timesS_ok (a := a.take (i + 1)) (b := b) (fun s hs => hok s (List.mem_of_mem_take hs)) hokb
      have h3 := timesRow_ok hokx b _ hokb (hst i).1
      obtain ⟨h4, h5⟩ := tot_take hokb j
      have h6 := (hst (i + 1)).2
      rw [hts, h3.2] at h6
      have h7 := Int.mul_le_mul (Int.le_refl x.2.2) h4 h5 (by have := hokx.pos; omega)
      rw [h1.2]; omega
    repeat' (first|refine X.O ?_|refine X.A ?_|refine X.B ?_|refine X.C ?_|refine X.D ?_|refine X.E ?_|refine X.F ?_|refine X.G ?_|refine X.H ?_|refine X.I ?_|fail)
    refine WP.loop (fun (s : Nat × Value) => [(0, .slice aa ta.length ca), (1, .slice ab tb.length cb), (5, s.2), (6, .int .i64 (i : Nat)), (7, .int .i64 (s.1 : Nat))])
      (fun s w3 => s.1 ≤ b.length ∧ (∃ to, Own3 w.heap.size 111 w3 s.2 to ∧ SplG w3 to (timesRow x (b.take s.1) (timesS (a.take i) b))) ∧ Below w.heap.size w w3)
      (fun s => b.length - s.1) (0, vo) ⟨rfl, rfl, rfl, rfl, rfl, trivial⟩ ⟨by dsimp only; omega, ⟨to, oo, hAo⟩, hbl2⟩ ?_
    rintro ⟨j, vp⟩ w3 ⟨hj1, ⟨tp, op, hAp⟩, hbl3⟩
    dsimp only at hj1 op hAp ⊢
    have hz3 := hbl3.size
    have hA3 := hA.below hbl3 (Nat.le_refl _)
    have hB3 := hB.below hbl3 (Nat.le_refl _)
    rw [hva] at hA3
    rw [hvb] at hB3
    have hxA3 := hxA.tsame (TSame.below hbl3)
    have hxB3 := hxB.tsame (TSame.below hbl3)
    repeat' (first|refine X.O ?_|refine X.A ?_|refine X.B ?_|refine X.C ?_|refine X.D ?_|refine X.E ?_|refine X.F ?_|refine X.G ?_|refine X.H ?_|refine X.I ?_|fail)
    refine WL.step (o_len3 (by rfl) ?_)
    repeat' (first|refine X.O ?_|refine X.A ?_|refine X.B ?_|refine X.C ?_|refine X.D ?_|refine X.E ?_|refine X.F ?_|refine X.G ?_|refine X.H ?_|refine X.I ?_|fail)
    first|refine X.J (fun _ => ?_) (fun _ => ?_)|refine X.L (fun _ => ?_) (fun _ => ?_)|refine X.M (fun _ => ?_) (fun _ => ?_)|refine X.R (fun _ => ?_) (fun _ => ?_)|fail
    · rename_i hltj
      have hlj : j < b.length := by omega
      have hljt : j < tb.length := by omega
      have hoky := hokb _ (List.getElem_mem hlj)
      have hty := htb2 _ (List.getElem_mem hlj)
      have hrs := timesRow_succ (x := x) (out := timesS (a.take i) b) hlj
      have hsx := hxA3.2 i _ _ (List.getElem?_eq_getElem hlit) (List.getElem?_eq_getElem hli)
      have hsy := hxB3.2 j _ _ (List.getElem?_eq_getElem hljt) (List.getElem?_eq_getElem hlj)
      rw [hxE] at hsx
      obtain ⟨y, hyE⟩ : ∃ y, b[j] = y := ⟨_, rfl⟩
      rw [hyE] at hoky hty hrs hsy
      obtain ⟨⟨xc, xt, xn⟩, htx⟩ : ∃ s, ta[i] = s := ⟨_, rfl⟩
      obtain ⟨⟨yc, yt, yn⟩, hty2⟩ : ∃ s, tb[j] = s := ⟨_, rfl⟩
      rw [htx] at hsx
      rw [hty2] at hsy
      have hxn : xn = .int .i64 x.2.2 := hsx.2.2
      have hyn : yn = .int .i64 y.2.2 := hsy.2.2
      subst hxn hyn
      have hlx := hokx.len (by omega)
      have hly := hoky.len (by omega)
      have hmul : 0 ≤ x.2.2 * y.2.2 ∧ x.2.2 * y.2.2 ≤ 65536 := by
        have h1 := hokx.pos; have h2 := hoky.pos
        have h3 := Int.mul_nonneg (show 0 ≤ x.2.2 by omega) (show 0 ≤ y.2.2 by omega)
        have h4 := Int.mul_le_mul (show x.2.2 ≤ 256 by omega) (show y.2.2 ≤ 256 by omega) (by omega) (by omega)
        omega
      have hpre := put_pre (hin j).1 hmn (by have := hin2 j; omega)
      have htd := timesD_ok hokx hoky
      repeat' (first|refine X.O ?_|refine X.A ?_|refine X.B ?_|refine X.C ?_|refine X.D ?_|refine X.E ?_|refine X.F ?_|refine X.G ?_|refine X.H ?_|refine X.I ?_|fail)
      refine WP.drawn (fun w' => Below w3.heap.size w3 w') [(0, true), (1, true), (2, true), (3, true), (4, true), (5, true), (6, true), (7, true), (8, true), (9, true), (10, true), (12, true), (13, true), (14, true), (15, true), (16, true), (17, true), (18, true), (19, true), (20, true), (21, true), (23, true), (24, true), (25, true), (26, true), (27, true), (28, true), (29, true), (30, true), (31, true), (32, true), (33, true), (11, false), (22, false), (34, false), (35, false), (36, true)] (by kernel_rfl) mixed ?_
      intro w4 hs4
      have hz4 := hs4.size
      have hS4 : Below w3.heap.size w3 w4 := hs4.below _
      have hAS : ∀ w', Below w3.heap.size w3 w' → Own3 la 111 w' (.slice aa ta.length ca) ta := fun w' h => hA3.below h (Nat.le_refl _)
      have hBS : ∀ w', Below w3.heap.size w3 w' → Own3 lb 111 w' (.slice ab tb.length cb) tb := fun w' h => hB3.below h (Nat.le_refl _)
      have hgx : ta[i]? = some (xc, xt, .int .i64 x.2.2) := by rw [List.getElem?_eq_getElem hlit, htx]
      have hgy : tb[j]? = some (yc, yt, .int .i64 y.2.2) := by rw [List.getElem?_eq_getElem hljt, hty2]
      repeat' (first|refine X.U rfl ?_|refine X.V rfl ?_|refine X.W rfl ?_|refine X.Y rfl ?_|refine X.Z rfl ?_|refine WS.nil ?_|fail)
      refine WS.ixfld3 (j := i) (off := 0) rfl rfl rfl hAS hgx (by rfl) hS4 ?_
      intro _ _
      repeat' (first|refine X.U rfl ?_|refine X.V rfl ?_|refine X.W rfl ?_|refine X.Y rfl ?_|refine X.Z rfl ?_|refine WS.nil ?_|fail)
      refine WS.ixfld3 (j := j) (off := 0) rfl rfl rfl hBS hgy (by rfl) hS4 ?_
      intro _ _
      repeat' (first|refine X.U rfl ?_|refine X.V rfl ?_|refine X.W rfl ?_|refine X.Y rfl ?_|refine X.Z rfl ?_|refine WS.nil ?_|fail)
      refine WS.ixfld3 (j := i) (off := 1) rfl rfl rfl hAS hgx (by rfl) hS4 ?_
      intro _ _
      repeat' (first|refine X.U rfl ?_|refine X.V rfl ?_|refine X.W rfl ?_|refine X.Y rfl ?_|refine X.Z rfl ?_|refine WS.nil ?_|fail)
      refine WS.ixfld3 (j := j) (off := 1) rfl rfl rfl hBS hgy (by rfl) hS4 ?_
      intro _ _
      repeat' (first|refine X.U rfl ?_|refine X.V rfl ?_|refine X.W rfl ?_|refine X.Y rfl ?_|refine X.Z rfl ?_|refine WS.nil ?_|fail)
      refine WS.ixfld3 (j := i) (off := 2) rfl rfl rfl hAS hgx (by rfl) hS4 ?_
      intro _ _
      repeat' (first|refine X.U rfl ?_|refine X.V rfl ?_|refine X.W rfl ?_|refine X.Y rfl ?_|refine X.Z rfl ?_|refine WS.nil ?_|fail)
      refine WS.ixfld3 (j := j) (off := 2) rfl rfl rfl hBS hgy (by rfl) hS4 ?_
      intro _ _
      refine WS.q rfl (q_mul (by rfl) (by rfl) (by unfold InI; omega)) hS4 ?_
      have hsx4 := hsx.tsame (TSame.below hS4)
      have hsy4 := hsy.tsame (TSame.below hS4)
      refine WS.call rfl (l03Times_any hsx4.1.rd hsy4.1 hlx.2.2.1 hly.2.2.1 (by dsimp only; omega)) ?_
      rintro vC w5 ⟨hRC, hbl5⟩
      have hz5 := hbl5.size
      have hS5 := hS4.trans (Below.mono hbl5 (by omega))
      refine ⟨hS5, ?_⟩
      have hsx5 := hsx4.tsame (TSame.below hbl5)
      have hsy5 := hsy4.tsame (TSame.below hbl5)
      refine WS.call rfl (l03Times_any hsx5.2.1.rd hsy5.2.1 hlx.2.2.2.1 hly.2.2.2.1 (by dsimp only; omega)) ?_
      rintro vT w6 ⟨hRT, hbl6⟩
      have hz6 := hbl6.size
      have hS6 := hS5.trans (Below.mono hbl6 (by omega))
      refine ⟨hS6, ?_⟩
      have hRC6 := hRC.tsame (TSame.below hbl6)
      obtain ⟨aC, cC, hvC⟩ := hRC6.shape
      obtain ⟨aT, cT, hvT⟩ := hRT.shape
      dsimp only at hvC hvT
      subst hvC hvT
      refine WS.op rfl (o_build (us := [.slice aC (timesF x.1 y.1).length cC, .slice aT (timesF x.2.1 y.2.1).length cT, .int .i64 (x.2.2 * y.2.2)]) (cells := [.slice aC (timesF x.1 y.1).length cC, .slice aT (timesF x.2.1 y.2.1).length cT, .int .i64 (x.2.2 * y.2.2)]) (by rfl) (by rfl) ?_)
      refine ⟨hS6, ?_⟩
      have op6 := op.below hS6 (Nat.le_refl _)
      have hAp6 := hAp.tsame (TSame.below hS6)
      refine WS.call rfl (l05Put_any (c := (.slice aC (timesF x.1 y.1).length cC, .slice aT (timesF x.2.1 y.2.1).length cT, .int .i64 (x.2.2 * y.2.2))) (x := timesD x y) op6 hAp6 ⟨hRC6, hRT, rfl⟩ hpre.1 ⟨hmul.1, by show x.2.2 * y.2.2 ≤ _; omega⟩ (by have := (htd.len hmn).2.2.2.2.1; omega) hpre.2) ?_
      rintro v7 w7 ⟨⟨t7, o7, hA7⟩, hbl7⟩
      have hz7 := hbl7.size
      have hS7 := hS6.trans (Below.mono hbl7 (by omega))
      refine ⟨hS7, ?_⟩
      repeat' (first|refine X.U rfl ?_|refine X.V rfl ?_|refine X.W rfl ?_|refine X.Y rfl ?_|refine X.Z rfl ?_|refine WS.nil ?_|fail)
      repeat' (first|refine X.O ?_|refine X.A ?_|refine X.B ?_|refine X.C ?_|refine X.D ?_|refine X.E ?_|refine X.F ?_|refine X.G ?_|refine X.H ?_|refine X.I ?_|fail)
      exact ⟨(j + 1, v7), ⟨rfl, rfl, rfl, rfl, (by first|rfl|exact X.T (by omega)), trivial⟩, ⟨by dsimp only; omega, ⟨t7, o7.lower (by omega), by dsimp only; rw [hrs]; exact hA7⟩, hbl3.trans (Below.mono hS7 (by omega))⟩, by dsimp only; omega⟩
    · rename_i hgej
      have hje : j = b.length := by omega
      subst hje
      rw [List.take_length, ← hts] at hAp
      repeat' (first|refine X.O ?_|refine X.A ?_|refine X.B ?_|refine X.C ?_|refine X.D ?_|refine X.E ?_|refine X.F ?_|refine X.G ?_|refine X.H ?_|refine X.I ?_|fail)
      exact ⟨(i + 1, vp), ⟨rfl, rfl, rfl, (by first|rfl|exact X.T (by omega)), trivial⟩, ⟨by dsimp only; omega, ⟨tp, op, hAp⟩, hbl3⟩, by dsimp only; omega⟩
  · rename_i hge
    have hie : i = a.length := by omega
    subst hie
    rw [List.take_length] at hAo
    repeat' (first|refine X.O ?_|refine X.A ?_|refine X.B ?_|refine X.C ?_|refine X.D ?_|refine X.E ?_|refine X.F ?_|refine X.G ?_|refine X.H ?_|refine X.I ?_|fail)
    refine ⟨_, ret1 rfl (by rfl), ?_⟩
    exact ⟨⟨to, oo, hAo⟩, hbl2⟩
/-- What l05Tree gives at f. -/
def TreeAt5 (f : Nat) : Prop := ∀ {lo hi : Nat} {w : World} {v : Value} {t : List Int}, IS lo hi w v t → Lv t → t.length ≤ f → t.length ≤ 8 →
    Does Tryz.prog 159 [v] w fun r w' => (∃ ts, Own3 w.heap.size 111 w' r ts ∧ SplG w' ts (treeS f t)) ∧ Below w.heap.size w w'
theorem l05Forest_of {f : Nat} (ihT : TreeAt5 f) {w : World} {v : Value} {bs : For} (h : Roo 22 2 w v bs) (hL : ∀ b ∈ bs, Lv b ∧ b.length ≤ f) (h7 : bs.flatten.length ≤ 7) :
    Does Tryz.prog 175 [v] w fun r w' => (∃ ts, Own3 w.heap.size 111 w' r ts ∧ SplG w' ts (forestSt f bs bs.length)) ∧ Below w.heap.size w w' := by
  have hR := h.rd
  obtain ⟨a, c, hv⟩ := hR.shape
  subst hv
  have htk : ∀ i, (bs.take i).flatten.length ≤ 7 := fun i => by have := flat_take_le bs i; omega
  have htr : ∀ b ∈ bs, (∀ s ∈ treeS f b, POk b.length s) ∧ 0 ≤ tot (treeS f b) ∧ tot (treeS f b) ≤ 2 ^ b.length := fun b hb => treeS_ok f (hL b hb).1 (hL b hb).2 (by have := mem_le_flat hb; omega)
  have hfo := forestSt_ok htr
  have hbn : bs.length ≤ 7 := by have := Lv.le_flat (f := bs) (fun b hb => (hL b hb).1); omega
  refine Does.enter Tryz.func175 Tryz.ntmps175 rfl (by rfl) ?_
  repeat' (first|refine X.O ?_|refine X.A ?_|refine X.B ?_|refine X.C ?_|refine X.D ?_|refine X.E ?_|refine X.F ?_|refine X.G ?_|refine X.H ?_|refine X.I ?_|fail)
  refine WL.step (o_build (us := [.int .i64 1]) (cells := [.slice none 0 0, .slice none 0 0, .int .i64 1]) (by rfl) (by rfl) ?_)
  refine WL.step (o_lit31 (tr := (.slice none 0 0, .slice none 0 0, .int .i64 1)) (by rfl) ?_)
  intro v1 w1 hown1 hbl1 hz1
  have hA1 : SplG w1 [(.slice none 0 0, .slice none 0 0, .int .i64 1)] (forestSt f bs 0) := (SplG.nil w1).snoc (x := ([], [], 1)) ⟨Roo.nil _ _ _, Roo.nil _ _ _, rfl⟩
  repeat' (first|refine X.O ?_|refine X.A ?_|refine X.B ?_|refine X.C ?_|refine X.D ?_|refine X.E ?_|refine X.F ?_|refine X.G ?_|refine X.H ?_|refine X.I ?_|fail)
  refine WP.loop (fun (s : Nat × Value) => [(0, .slice a bs.length c), (3, s.2), (4, .int .i64 (s.1 : Nat))])
    (fun s w2 => s.1 ≤ bs.length ∧ (∃ to, Own3 w.heap.size 111 w2 s.2 to ∧ SplG w2 to (forestSt f bs s.1)) ∧ Below w.heap.size w w2)
    (fun s => bs.length - s.1) (0, v1) ⟨rfl, rfl, rfl, trivial⟩ ⟨by dsimp only; omega, ⟨_, hown1, hA1⟩, hbl1⟩ ?_
  rintro ⟨i, vo⟩ w2 ⟨hi1, ⟨to, oo, hAo⟩, hbl2⟩
  dsimp only at hi1 oo hAo ⊢
  have hz2 := hbl2.size
  repeat' (first|refine X.O ?_|refine X.A ?_|refine X.B ?_|refine X.C ?_|refine X.D ?_|refine X.E ?_|refine X.F ?_|refine X.G ?_|refine X.H ?_|refine X.I ?_|fail)
  first|refine X.J (fun _ => ?_) (fun _ => ?_)|refine X.L (fun _ => ?_) (fun _ => ?_)|refine X.M (fun _ => ?_) (fun _ => ?_)|refine X.R (fun _ => ?_) (fun _ => ?_)|fail
  · rename_i hlt
    have hli : i < bs.length := by omega
    have hbi := hL _ (List.getElem_mem hli)
    have hti := htr _ (List.getElem_mem hli)
    have hml := mem_le_flat (List.getElem_mem hli)
    obtain ⟨hf1, hf2, hf3⟩ := hfo i (by omega)
    have hnm : (bs.take i).flatten.length + bs[i].length ≤ 8 := by have := flat_take_len hli; have := htk (i + 1); omega
    have hp1 := pow_256 (n := (bs.take i).flatten.length) (by omega)
    have hp2 := pow_256 (n := bs[i].length) (by omega)
    repeat' (first|refine X.O ?_|refine X.A ?_|refine X.B ?_|refine X.C ?_|refine X.D ?_|refine X.E ?_|refine X.F ?_|refine X.G ?_|refine X.H ?_|refine X.I ?_|fail)
    refine WL.ixload (j := i) (hR.below IS.stable hbl2 (Nat.le_refl _)) (List.getElem?_eq_getElem hli) ?_
    intro p1 u hu
    repeat' (first|refine X.O ?_|refine X.A ?_|refine X.B ?_|refine X.C ?_|refine X.D ?_|refine X.E ?_|refine X.F ?_|refine X.G ?_|refine X.H ?_|refine X.I ?_|fail)
    refine WL.call (ihT hu hbi.1 hbi.2 (by omega)) ?_
    rintro v3 w3 ⟨⟨t3, o3, hA3⟩, hbl3⟩
    have hz3 := hbl3.size
    repeat' (first|refine X.O ?_|refine X.A ?_|refine X.B ?_|refine X.C ?_|refine X.D ?_|refine X.E ?_|refine X.F ?_|refine X.G ?_|refine X.H ?_|refine X.I ?_|fail)
    refine WL.call (l05Times_any (oo.below hbl3 (Nat.le_refl _)) (hAo.tsame (TSame.below hbl3)) o3 hA3 hf1 hti.1 hnm (by omega) (by omega)) ?_
    rintro v4 w4 ⟨⟨t4, o4, hA4⟩, hbl4⟩
    have hz4 := hbl4.size
    rw [← forestSt_succ hli] at hA4
    repeat' (first|refine X.O ?_|refine X.A ?_|refine X.B ?_|refine X.C ?_|refine X.D ?_|refine X.E ?_|refine X.F ?_|refine X.G ?_|refine X.H ?_|refine X.I ?_|fail)
    exact ⟨(i + 1, v4), ⟨rfl, rfl, (by first|rfl|exact X.T (by omega)), trivial⟩, ⟨by dsimp only; omega, ⟨t4, o4.lower (by omega), hA4⟩, (hbl2.trans (Below.mono hbl3 (by omega))).trans (Below.mono hbl4 (by omega))⟩, by dsimp only; omega⟩
  · rename_i hge
    have hie : i = bs.length := by omega
    subst hie
    repeat' (first|refine X.O ?_|refine X.A ?_|refine X.B ?_|refine X.C ?_|refine X.D ?_|refine X.E ?_|refine X.F ?_|refine X.G ?_|refine X.H ?_|refine X.I ?_|fail)
    refine ⟨_, ret1 rfl (by rfl), ?_⟩
    exact ⟨⟨to, oo, hAo⟩, hbl2⟩
set_option maxHeartbeats 1000000 in
theorem l05Tree_any (f : Nat) : TreeAt5 f := by
  induction f with
  | zero => intro _ _ _ _ t _ ht hn; exact absurd ht.pos (by omega)
  | succ f ih =>
  intro lo hi w v t h ht hn h8
  have hz := h.hi_le
  obtain ⟨hbr, hcnt⟩ := branchesS_ok ht h8
  have htr : ∀ b ∈ branchesS t, (∀ s ∈ treeS f b, POk b.length s) ∧ 0 ≤ tot (treeS f b) ∧ tot (treeS f b) ≤ 2 ^ b.length := fun b hb => treeS_ok f (hbr b hb).1 (by have := (hbr b hb).2; omega) (by have := (hbr b hb).2; omega)
  have hfo := forestSt_ok htr _ (Nat.le_refl _)
  rw [List.take_length] at hfo
  have htS := treeS_succ f t
  have h7 : (branchesS t).flatten.length ≤ 7 := by omega
  have hp256 := pow_256 (n := (branchesS t).flatten.length) (by omega)
  have h0 : ∀ s ∈ [(([t], [], 1) : SplD)], POk ((branchesS t).flatten.length + 1) s := fun s hs => by
    simp at hs; subst hs
    exact ⟨fun b hb => by simp at hb; subst hb; exact ht, fun b hb => by simp at hb, by show [t].flatten.length + ([] : For).flatten.length = _; rw [show [t].flatten = t from by simp, List.flatten_nil, List.length_nil]; omega, by simp⟩
  refine Does.enter Tryz.func159 Tryz.ntmps159 rfl (by rfl) ?_
  repeat' (first|refine X.O ?_|refine X.A ?_|refine X.B ?_|refine X.C ?_|refine X.D ?_|refine X.E ?_|refine X.F ?_|refine X.G ?_|refine X.H ?_|refine X.I ?_|fail)
  refine WL.call (l03Branches_any h ht h8) ?_
  rintro v1 w1 ⟨hR1, hbl1⟩
  have hz1 := hbl1.size
  refine WL.call (l05Forest_of ih hR1 (fun b hb => ⟨(hbr b hb).1, by have := (hbr b hb).2; omega⟩) h7) ?_
  rintro v2 w2 ⟨⟨t2, o2, hA2⟩, hbl2⟩
  have hz2 := hbl2.size
  obtain ⟨B, hB⟩ : ∃ B, forestSt f (branchesS t) (branchesS t).length = B := ⟨_, rfl⟩
  rw [hB] at hA2 hfo htS
  have hBl : B.length ≤ 256 := by have := (tot_len hfo.1).1; omega
  have hbl02 : Below w.heap.size w w2 := hbl1.trans (Below.mono hbl2 (by omega))
  have hl2 := hA2.1
  obtain ⟨a2, c2, hv2, _⟩ := o2.shape
  subst hv2
  have hall : ∀ i, (∀ s ∈ putAll (B.take i) [([t], [], 1)], POk ((branchesS t).flatten.length + 1) s) ∧ tot (putAll (B.take i) [([t], [], 1)]) ≤ 1 + 256 := fun i => by
    have h1 := putAll_ok h7 (B.take i) _ (fun s hs => hfo.1 s (List.mem_of_mem_take hs)) h0
    obtain ⟨h2, h3⟩ := tot_take hfo.1 i
    have h4 : tot [(([t], [], 1) : SplD)] = 1 := rfl
    exact ⟨h1.1, by rw [h1.2, h4]; omega⟩
  repeat' (first|refine X.O ?_|refine X.A ?_|refine X.B ?_|refine X.C ?_|refine X.D ?_|refine X.E ?_|refine X.F ?_|refine X.G ?_|refine X.H ?_|refine X.I ?_|fail)
  refine WL.call (l01Own_grow (h.below RI.stable hbl02 hz) (by omega)) ?_
  intro v3 w3 hN3
  have hz3 := hN3.2.size
  obtain ⟨a3, n3, c3, rfl⟩ : ∃ a n c, v3 = Value.slice a n c := by obtain ⟨a, c, h, _⟩ := hN3.1.shape; exact ⟨_, _, _, h⟩
  refine WL.step (o_lit (us := [.slice a3 n3 c3]) (by rfl) (by rfl) rfl (by decide) (one1 rfl) ?_)
  intro v4 w4 hown4 hbl4 hz4 hv4
  have hroo : Roo 22 2 w4 v4 [t] := Roo.single hown4 (hN3.1.below hbl4 (Nat.le_refl _))
  subst hv4
  refine WL.step (o_build (us := [.slice (some ⟨w3.heap.size, 0, none⟩) 1 1, .int .i64 1]) (cells := [.slice (some ⟨w3.heap.size, 0, none⟩) 1 1, .slice none 0 0, .int .i64 1]) (by rfl) (by rfl) ?_)
  refine WL.step (o_lit31 (tr := (.slice (some ⟨w3.heap.size, 0, none⟩) 1 1, .slice none 0 0, .int .i64 1)) (by rfl) ?_)
  intro v5 w5 hown5 hbl5 hz5
  have hbl25 : Below w2.heap.size w2 w5 := (hN3.2.trans (Below.mono hbl4 (by omega))).trans (Below.mono hbl5 (by omega))
  have hA5 : SplG w5 [(.slice (some ⟨w3.heap.size, 0, none⟩) 1 1, .slice none 0 0, .int .i64 1)] (putAll (B.take 0) [([t], [], 1)]) := (SplG.nil w5).snoc (x := ([t], [], 1)) ⟨hroo.tsame (TSame.below hbl5), Roo.nil _ _ _, rfl⟩
  repeat' (first|refine X.O ?_|refine X.A ?_|refine X.B ?_|refine X.C ?_|refine X.D ?_|refine X.E ?_|refine X.F ?_|refine X.G ?_|refine X.H ?_|refine X.I ?_|fail)
  refine WP.loop (fun (s : Nat × Value) => [(3, .slice a2 t2.length c2), (4, s.2), (5, .int .i64 (s.1 : Nat))])
    (fun s w6 => s.1 ≤ B.length ∧ (∃ to, Own3 w.heap.size 111 w6 s.2 to ∧ SplG w6 to (putAll (B.take s.1) [([t], [], 1)])) ∧ Below w2.heap.size w2 w6)
    (fun s => B.length - s.1) (0, v5) ⟨rfl, rfl, rfl, trivial⟩ ⟨by dsimp only; omega, ⟨_, hown5.lower (by omega), hA5⟩, hbl25⟩ ?_
  rintro ⟨i, vo⟩ w6 ⟨hi1, ⟨to, oo, hAo⟩, hbl6⟩
  dsimp only at hi1 oo hAo ⊢
  have hz6 := hbl6.size
  have o26 := o2.below hbl6 (Nat.le_refl _)
  have hA26 := hA2.tsame (TSame.below hbl6)
  repeat' (first|refine X.O ?_|refine X.A ?_|refine X.B ?_|refine X.C ?_|refine X.D ?_|refine X.E ?_|refine X.F ?_|refine X.G ?_|refine X.H ?_|refine X.I ?_|fail)
  refine WL.step (o_len3 (by rfl) ?_)
  repeat' (first|refine X.O ?_|refine X.A ?_|refine X.B ?_|refine X.C ?_|refine X.D ?_|refine X.E ?_|refine X.F ?_|refine X.G ?_|refine X.H ?_|refine X.I ?_|fail)
  first|refine X.J (fun _ => ?_) (fun _ => ?_)|refine X.L (fun _ => ?_) (fun _ => ?_)|refine X.M (fun _ => ?_) (fun _ => ?_)|refine X.R (fun _ => ?_) (fun _ => ?_)|fail
  · rename_i hlt
    have hli : i < B.length := by omega
    have hlit : i < t2.length := by omega
    have hokx := hfo.1 _ (List.getElem_mem hli)
    have htx := (tot_len hfo.1).2 _ (List.getElem_mem hli)
    have hsx := hA26.2 i _ _ (List.getElem?_eq_getElem hlit) (List.getElem?_eq_getElem hli)
    have hps := putAll_succ (out := [([t], [], 1)]) hli
    obtain ⟨x, hxE⟩ : ∃ x, B[i] = x := ⟨_, rfl⟩
    rw [hxE] at hokx htx hsx hps
    obtain ⟨⟨xc, xt, xn⟩, htxE⟩ : ∃ s, t2[i] = s := ⟨_, rfl⟩
    rw [htxE] at hsx
    have hxn : xn = .int .i64 x.2.2 := hsx.2.2
    subst hxn
    have hgx : t2[i]? = some (xc, xt, .int .i64 x.2.2) := by rw [List.getElem?_eq_getElem hlit, htxE]
    have hpre := put_pre (hall i).1 (by omega) (by have := (hall i).2; omega)
    have hrk := rootS_ok h7 hokx
    have hlx := hokx.len (by omega)
    have hxp := hokx.pos
    have hxn := hokx.n
    repeat' (first|refine X.O ?_|refine X.A ?_|refine X.B ?_|refine X.C ?_|refine X.D ?_|refine X.E ?_|refine X.F ?_|refine X.G ?_|refine X.H ?_|refine X.I ?_|fail)
    refine WP.drawn (fun w' => Below w6.heap.size w6 w') [(0, true), (1, true), (2, true), (3, true), (4, true), (5, true), (6, true), (7, true), (8, true), (9, true), (10, true), (13, true), (14, true), (15, true), (16, true), (17, true), (11, false), (12, false), (18, false), (19, false), (20, true)] (by kernel_rfl) mixed ?_
    intro w7 hs7
    have hz7 := hs7.size
    have hS7 : Below w6.heap.size w6 w7 := hs7.below _
    have hAS : ∀ w', Below w6.heap.size w6 w' → Own3 w1.heap.size 111 w' (.slice a2 t2.length c2) t2 := fun w' h => o26.below h (Nat.le_refl _)
    repeat' (first|refine X.U rfl ?_|refine X.V rfl ?_|refine X.W rfl ?_|refine X.Y rfl ?_|refine X.Z rfl ?_|refine WS.nil ?_|fail)
    refine WS.ixfld3 (j := i) (off := 0) rfl rfl rfl hAS hgx (by rfl) hS7 ?_
    intro _ _
    repeat' (first|refine X.U rfl ?_|refine X.V rfl ?_|refine X.W rfl ?_|refine X.Y rfl ?_|refine X.Z rfl ?_|refine WS.nil ?_|fail)
    refine WS.ixfld3 (j := i) (off := 1) rfl rfl rfl hAS hgx (by rfl) hS7 ?_
    intro _ _
    repeat' (first|refine X.U rfl ?_|refine X.V rfl ?_|refine X.W rfl ?_|refine X.Y rfl ?_|refine X.Z rfl ?_|refine WS.nil ?_|fail)
    refine WS.ixfld3 (j := i) (off := 2) rfl rfl rfl hAS hgx (by rfl) hS7 ?_
    intro _ _
    have hsx7 := hsx.tsame (TSame.below hS7)
    refine WS.call rfl (l03Root_any hsx7.2.1.rd hokx.t (by dsimp only; omega)) ?_
    intro v8 w8 hN8
    have hz8 := hN8.2.size
    have hS8 := hS7.trans (Below.mono hN8.2 (by omega))
    refine ⟨hS8, ?_⟩
    obtain ⟨a8, n8, c8, rfl⟩ : ∃ a n c, v8 = Value.slice a n c := by obtain ⟨a, c, h, _⟩ := hN8.1.shape; exact ⟨_, _, _, h⟩
    refine WS.op rfl (o_lit (us := [.slice a8 n8 c8]) (by rfl) (by rfl) rfl (by decide) (one1 rfl) ?_)
    intro v9 w9 hown9 hbl9 hz9 hv9
    have hS9 := hS8.trans (Below.mono hbl9 (by omega))
    refine ⟨hS9, ?_⟩
    have hroo9 : Roo 22 2 w9 v9 [canonL 8 (rootL x.2.1)] := Roo.single hown9 (hN8.1.below hbl9 (Nat.le_refl _))
    subst hv9
    have hsx9 := hsx.tsame (TSame.below hS9)
    obtain ⟨axc, cxc, hxc⟩ := hsx9.1.shape
    dsimp only at hxc
    subst hxc
    refine WS.op rfl (o_build (us := [.slice axc x.1.length cxc, .slice (some ⟨w8.heap.size, 0, none⟩) 1 1, .int .i64 x.2.2]) (cells := [.slice axc x.1.length cxc, .slice (some ⟨w8.heap.size, 0, none⟩) 1 1, .int .i64 x.2.2]) (by rfl) (by rfl) ?_)
    refine ⟨hS9, ?_⟩
    refine WS.call rfl (l05Put_any (c := (.slice axc x.1.length cxc, .slice (some ⟨w8.heap.size, 0, none⟩) 1 1, .int .i64 x.2.2)) (x := rootS x) (oo.below hS9 (Nat.le_refl _)) (hAo.tsame (TSame.below hS9)) ⟨hsx9.1, hroo9, rfl⟩ hpre.1 ⟨by show 0 ≤ x.2.2; omega, by show x.2.2 ≤ _; omega⟩ (by show x.1.flatten.length ≤ _; omega) hpre.2) ?_
    rintro v10 w10 ⟨⟨t10, o10, hA10⟩, hbl10⟩
    have hz10 := hbl10.size
    have hS10 := hS9.trans (Below.mono hbl10 (by omega))
    refine ⟨hS10, ?_⟩
    repeat' (first|refine X.U rfl ?_|refine X.V rfl ?_|refine X.W rfl ?_|refine X.Y rfl ?_|refine X.Z rfl ?_|refine WS.nil ?_|fail)
    repeat' (first|refine X.O ?_|refine X.A ?_|refine X.B ?_|refine X.C ?_|refine X.D ?_|refine X.E ?_|refine X.F ?_|refine X.G ?_|refine X.H ?_|refine X.I ?_|fail)
    exact ⟨(i + 1, v10), ⟨rfl, rfl, (by first|rfl|exact X.T (by omega)), trivial⟩, ⟨by dsimp only; omega, ⟨t10, o10.lower (by omega), by dsimp only; rw [hps]; exact hA10⟩, hbl6.trans (Below.mono hS10 (by omega))⟩, by dsimp only; omega⟩
  · rename_i hge
    have hie : i = B.length := by omega
    subst hie
    rw [List.take_length, ← htS] at hAo
    repeat' (first|refine X.O ?_|refine X.A ?_|refine X.B ?_|refine X.C ?_|refine X.D ?_|refine X.E ?_|refine X.F ?_|refine X.G ?_|refine X.H ?_|refine X.I ?_|fail)
    refine ⟨_, ret1 rfl (by rfl), ?_⟩
    exact ⟨⟨to, oo, hAo⟩, hbl02.trans (Below.mono hbl6 (by omega))⟩
end Go.Proofs
