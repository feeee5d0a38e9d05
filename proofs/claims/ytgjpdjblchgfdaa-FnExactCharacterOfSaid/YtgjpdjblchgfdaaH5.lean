/- Tableaus in the laws: made afresh, compared, marked, looked at again. -/
import Derived.Test.YtgjpdjblchgfdaaH4
import Derived.Laws.StructEq
namespace Go.Fw
open Go Go.RowKit
theorem Chg.widen {a b a' b' : Nat} {w w' : World} (h : Chg a b w w') (h1 : a' ≤ a) (h2 : b ≤ b') : Chg a' b' w w' :=
  ⟨h.os, h.tape, h.output, h.size, fun k hk hd => h.block k hk (by omega)⟩
theorem Chg.none {a b : Nat} {w w' : World} (h : Chg 0 0 w w') : Chg a b w w' := ⟨h.os, h.tape, h.output, h.size, fun k hk _ => h.block k hk (by omega)⟩
theorem Chg.trans {a b : Nat} {x y z : World} (h : Chg a b x y) (h' : Chg a b y z) : Chg a b x z :=
  ⟨h'.os.trans h.os, h'.tape.trans h.tape, h'.output.trans h.output, Nat.le_trans h.size h'.size, fun k hk hd => (h'.block k (Nat.lt_of_lt_of_le hk h.size) hd).trans (h.block k hk hd)⟩
theorem Blk.chg0 {w w' : World} {b : Nat} {cs : List Value} {t : TypeId} (h : Blk w b cs t) (hc : Chg 0 0 w w') : Blk w' b cs t := h.keep (hc.block b h.lt (by omega))
/-- Another slice's numbers are written: the slice of slices stands. -/
theorem OwSSv.keepBut {e e2 : TypeId} {lo lo' hi : Nat} {w w' : World} {v u : Value} {vs us : List Value} {xss : List (List Int)} (h : OwSSv e e2 lo hi w v vs xss) (hu : Own lo' e2 w u us)
    (ap : ∀ (i : Nat) u', vs[i]? = some u' → ∀ k, u'.ownBlock = some k → u.ownBlock ≠ some k) (hz : w'.heap.size = w.heap.size) (hs : ∀ j, u.ownBlock ≠ some j → w'.heap[j]? = w.heap[j]?) : OwSSv e e2 lo hi w' v vs xss :=
  ⟨h.own.keep fun k hk => hs k (h.own.ne_block hu h.ne hk), h.lt, by rw [hz]; exact h.hi_le, h.len, fun i u' xs hu' hx => by
    have hr := h.rows i u' xs hu' hx
    exact ⟨hr.own.keep fun k hk => hs k (ap i u' hu' k hk), hr.lt, by rw [hz]; exact h.hi_le⟩, h.apart, h.ne⟩
section
variable {P : Program} {N : Nat} {Q : Exit → Fr → World → Prop} {S : World → Prop} {l : Fr} {w : World} {ops : Array Oper} {K : Fr → World → Prop}
variable {d : Nat} {ty : TypeId} {pos : String} {af : Array Edge} {g : Option (Nat × Bool)}
/-- a != b of two equal truth values. -/
theorem o_neqB {x y : Operand} {t t' : TypeId} {a : Bool} (hu : P.underlying t = some .bool) (hx : ev l x = some (.bool a)) (hy : ev l y = some (.bool a)) (k : K ((d, .bool false) :: l) w)
    (hg : wantedL ops l g = some true := by rfl) (hd : Nat.blt d N = true := by rfl) : OpW P N ops Q ⟨some d, .binOp .neq t x y t', ty, pos, af, g⟩ l w K :=
  OpW.val (fun fr ha => by
    have h2 : (Op.equal t (.bool a) (.bool a)).run P w = .ok true w := by have := run_equalIn_bool' (P := P) w 9999 t a a hu; rw [beq_self_eq_true] at this; exact this
    simp [execOp, ha.ev hx, ha.ev hy, binOp, eqGuard, h2]) k hg hd
/-- A struct is read whole, in a drawn region. -/
theorem q_loadS {t : TypeId} {n b : Nat} {z : Array Value} [h : StructTy P t n z] {x : Operand} {cs : List Value} {tt : TypeId} (hx : ev l x = some (.pointer (some ⟨b, 0, none⟩))) (hb : ∀ w, S w → Blk w b cs tt) (hn : cs.length = n)
    (hg : wantedL ops l g = some true := by rfl) (hd : Nat.blt d N = true := by rfl) : QW P N ops S ⟨some d, .load t x, ty, pos, af, g⟩ l d (.agg cs.toArray) :=
  QW.mk (fun fr ha w hS => by
    obtain ⟨fs, hu⟩ := h.und
    have hs : (P.info? t).map (·.size) = some cs.toArray.size := by
      have := h.size
      cases hi : P.info? t <;> simp_all
    simp [execOp, ha.ev hx, Instr.loadAt, Instr.sureAddr, run_loadVar_row w b tt t cs.toArray (0, 0) _ (hb w hS) hu rfl hs]) hg hd
end
section
variable {P : Program} {N : Nat} {Q : Exit → Fr → World → Prop} {S : World → Prop} {l : Fr} {w : World} {ops : Array Oper} {sc : List (Nat × Bool)}
/-- x.f of a variable that is a block, in a drawn region. -/
theorem WS.fld {m m' s t f off b d1 d2 : Nat} [FieldTy P s f off] [CellTy P t] {x x2 : Operand} {cs : List Value} {tt : TypeId} {v : Value} {ty1 ty2 : TypeId} {pos1 pos2 : String} {af1 af2 : Array Edge} {g1 g2 : Option (Nat × Bool)}
    (hi1 : ops[m]? = some ⟨some d1, .fieldAddr s x f, ty1, pos1, af1, g1⟩) (hj1 : ops[m']? = some ⟨some d2, .load t x2, ty2, pos2, af2, g2⟩)
    (hb : ∀ w', S w' → Blk w' b cs tt) (hS : S w) (k : ∀ p, WS P N ops Q S sc ((d2, v) :: (d1, p) :: l) w) (hv : cs[off]? = some v := by rfl) (hx : ev l x = some (.pointer (some ⟨b, 0, none⟩)) := by rfl) (h2 : x2 = .tmp d1 := by rfl)
    (hg1 : wantedL ops l g1 = some true := by rfl) (hg2 : ∀ p, wantedL ops ((d1, .pointer (some p)) :: l) g2 = some true := by intro _; rfl) (hd1 : Nat.blt d1 N = true := by rfl) (hd2 : Nat.blt d2 N = true := by rfl) :
    WS P N ops Q S ((m, true) :: (m', true) :: sc) l w := by
  subst h2
  refine WS.q hi1 (q_field hx hg1 hd1) hS ?_
  have ha : (⟨b, 0, none⟩ : Addr).add off = ⟨b, off, none⟩ := by unfold Addr.add; split <;> simp_all
  rw [ha]
  exact WS.q hj1 (q_load (look_cons_self _ _ _) (fun w' hw' => (hb w' hw').cell hv) (hg2 _) hd2) hS (k _)
end
section
variable {P : Program} {N : Nat} {Q : Exit → Fr → World → Prop} {S : World → Prop} {l : Fr} {w : World} {ops : Array Oper} {sc : List (Nat × Bool)}
/-- x.f = u, the last of a drawn region. -/
theorem WS.fldst {m m' s t f off b d1 : Nat} [FieldTy P s f off] [CellTy P t] {x x2 y : Operand} {cs : List Value} {tt : TypeId} {u old : Value} {ty1 ty2 : TypeId} {pos1 pos2 : String} {af1 af2 : Array Edge}
    (hi1 : ops[m]? = some ⟨some d1, .fieldAddr s x f, ty1, pos1, af1, none⟩) (hj1 : ops[m' - 1000]? = some ⟨none, .store t x2 y, ty2, pos2, af2, none⟩)
    (hb : Blk w b cs tt) (hS : S w) (k : ∀ p w1, Blk w1 b (cs.set off u) tt → But b w w1 → WS P N ops Q S sc ((d1, p) :: l) w1) (hv : cs[off]? = some old := by rfl) (hx : ev l x = some (.pointer (some ⟨b, 0, none⟩)) := by rfl) (hy : ∀ p, ev ((d1, p) :: l) y = some u := by intro _; rfl) (hu : u.oneCell' = true := by rfl) (h2 : x2 = .tmp d1 := by rfl)
    (hd1 : Nat.blt d1 N = true := by rfl) (hge : Nat.ble 1000 m' = true := by rfl) : WS P N ops Q S ((m, true) :: (m', false) :: sc) l w := by
  subst h2
  refine WS.q hi1 (q_field hx rfl hd1) hS ?_
  have ha : (⟨b, 0, none⟩ : Addr).add off = ⟨b, off, none⟩ := by unfold Addr.add; split <;> simp_all
  rw [ha]
  exact WS.last hj1 (o_store (look_cons_self _ _ _) (hy _) (hb.cell hv) (hb.free off) (k _ _ (hb.set off u) (But.setCell w b off u)) hu rfl) hge
end
theorem Chg.thenBelow {a b : Nat} {x y z : World} (h : Chg a b x y) (h' : Below x.heap.size y z) : Chg a b x z :=
  ⟨h'.os.trans h.os, h'.tape.trans h.tape, h'.output.trans h.output, Nat.le_trans h.size h'.size, fun k hk hd => (h'.block k hk).trans (h.block k hk hd)⟩
theorem Chg.thenBut {a b c : Nat} {x y z : World} (h : Chg a b x y) (h' : But c y z) (h1 : a ≤ c) (h2 : c < b) : Chg a b x z :=
  ⟨h'.os.trans h.os, h'.tape.trans h.tape, h'.output.trans h.output, by rw [h'.size]; exact h.size, fun k hk hd => (h'.block k (by omega)).trans (h.block k hk hd)⟩
theorem Chg.refl (a b : Nat) (w : World) : Chg a b w w := ⟨rfl, rfl, rfl, Nat.le_refl _, fun _ _ _ => rfl⟩
/-- What a call gives: a new tableau and a code. -/
def ResT (e e2 : TypeId) (w : World) (r : Value) (w' : World) (x : TabD × Int) : Prop := ∃ v, r = .tuple #[v, .int .i64 x.2] ∧ OwT e e2 w.heap.size w'.heap.size w' v x.1 ∧ Chg 0 0 w w'
end Go.Fw

namespace Go.Proofs
open Go Go.Fw Go.RowKit
theorem markT_cnt (k : Int) (x : TabD) : tabCnt (markT k x) = tabCnt x := by simp [markT, tabCnt, cntSS_markSS, countI_length]

theorem toT {lo hi : Nat} {w : World} {v : Value} {x : TabD} (h : IT lo hi w v x) (hn : TabSmall x) :
    Does Try.prog 17 [v] w fun v' w' => OwT 23 2 w.heap.size w'.heap.size w' v' x ∧ Chg 0 0 w w' := by
  obtain ⟨va, vb, rfl, hA, hB⟩ := h
  have hAz := hA.hi_le
  have hBz := hB.hi_le
  refine Does.enter Try.func17 Try.ntmps17 rfl (by rfl) ?_
  repeat' (first | refine WL.step (o_s (by rfl) ?_) | refine WL.step (o_len (by rfl) ?_) | refine WL.step (o_add (by rfl) (by rfl) (by unfold InI; omega) ?_) | refine WL.step (o_sub (by rfl) (by rfl) (by unfold InI; omega) ?_) | refine WL.step (OpW.pass (by rfl) ?_) | refine WL.nil ?_ | refine thenN ?_ | refine WP.region ?_ | refine WP.seq ?_ | refine WP.block ?_ | refine thenR ?_ | refine thenX ?_ | refine blkN ?_ | refine blkHit ?_ | refine blkR ?_ | refine blkMiss (by rfl) ?_ | refine WP.ret ?_ | refine WP.exit ?_ | refine WP.skip ?_ | refine WP.label ?_ | refine WP.condT (by rfl) ?_ | refine WP.condF (by rfl) ?_ | fail)
  refine WL.step (o_box (by rfl) ?_)
  intro w1 hb1 hbl1 hz1
  refine WL.step (o_alloc ?_)
  intro w2 hb2 hbl2 hz2
  repeat' (first | refine WL.step (o_s (by rfl) ?_) | refine WL.step (o_len (by rfl) ?_) | refine WL.step (o_add (by rfl) (by rfl) (by unfold InI; omega) ?_) | refine WL.step (o_sub (by rfl) (by rfl) (by unfold InI; omega) ?_) | refine WL.step (OpW.pass (by rfl) ?_) | refine WL.nil ?_ | refine thenN ?_ | refine WP.region ?_ | refine WP.seq ?_ | refine WP.block ?_ | refine thenR ?_ | refine thenX ?_ | refine blkN ?_ | refine blkHit ?_ | refine blkR ?_ | refine blkMiss (by rfl) ?_ | refine WP.ret ?_ | refine WP.exit ?_ | refine WP.skip ?_ | refine WP.label ?_ | refine WP.condT (by rfl) ?_ | refine WP.condF (by rfl) ?_ | fail)
  refine WL.step (o_alloc ?_)
  intro w3 hb3 hbl3 hz3
  have hbl12 : Below w.heap.size w w2 := hbl1.trans (Below.mono hbl2 (by omega))
  have hbl13 : Below w.heap.size w w3 := hbl12.trans (Below.mono hbl3 (by omega))
  replace hA := hA.below IS.stable hbl13 hAz
  replace hB := hB.below RI.stable hbl13 hBz
  replace hb1 := (hb1.below hbl2 (by omega)).below hbl3 (by omega)
  replace hb2 := hb2.below hbl3 (by omega)
  repeat' (first | refine WL.step (o_s (by rfl) ?_) | refine WL.step (o_len (by rfl) ?_) | refine WL.step (o_add (by rfl) (by rfl) (by unfold InI; omega) ?_) | refine WL.step (o_sub (by rfl) (by rfl) (by unfold InI; omega) ?_) | refine WL.step (OpW.pass (by rfl) ?_) | refine WL.nil ?_ | refine thenN ?_ | refine WP.region ?_ | refine WP.seq ?_ | refine WP.block ?_ | refine thenR ?_ | refine thenX ?_ | refine blkN ?_ | refine blkHit ?_ | refine blkR ?_ | refine blkMiss (by rfl) ?_ | refine WP.ret ?_ | refine WP.exit ?_ | refine WP.skip ?_ | refine WP.label ?_ | refine WP.condT (by rfl) ?_ | refine WP.condF (by rfl) ?_ | fail)
  refine WL.fld hb1 ?_
  intro p1
  refine WL.call (toSS hA hn.outer (fun xs hx => hn.row hx)) ?_
  rintro va' w4 ⟨oA, hc4⟩
  have hz4 := hc4.size
  replace hA := ISS.chg hA hc4 (by omega)
  replace hB := RI.chg hB hc4 (by omega)
  replace hb1 := hb1.chg0 hc4
  replace hb2 := hb2.chg0 hc4
  replace hb3 := hb3.chg0 hc4
  have sA : va'.oneCell' = true := by
    obtain ⟨vs, ho⟩ := oA
    obtain ⟨_, _, hsh, _⟩ := ho.own.shape
    rw [hsh]; rfl
  refine WL.fldst hb3 ?_ (hu := sA)
  intro p2 w5 hb3' hbut5
  have hc5 := hbut5.chg
  have hz5 := hc5.size
  replace hB := RI.chg hB hc5 (by omega)
  replace hb1 := hb1.chg hc5 (by omega)
  replace hb2 := hb2.chg hc5 (by omega)
  replace oA := oA.chg hc5 (by omega)
  repeat' (first | refine WL.step (o_s (by rfl) ?_) | refine WL.step (o_len (by rfl) ?_) | refine WL.step (o_add (by rfl) (by rfl) (by unfold InI; omega) ?_) | refine WL.step (o_sub (by rfl) (by rfl) (by unfold InI; omega) ?_) | refine WL.step (OpW.pass (by rfl) ?_) | refine WL.nil ?_ | refine thenN ?_ | refine WP.region ?_ | refine WP.seq ?_ | refine WP.block ?_ | refine thenR ?_ | refine thenX ?_ | refine blkN ?_ | refine blkHit ?_ | refine blkR ?_ | refine blkMiss (by rfl) ?_ | refine WP.ret ?_ | refine WP.exit ?_ | refine WP.skip ?_ | refine WP.label ?_ | refine WP.condT (by rfl) ?_ | refine WP.condF (by rfl) ?_ | fail)
  refine WL.fld hb1 ?_
  intro p3
  refine WL.call (toI hB hn.last) ?_
  rintro vb' w6 ⟨oB, hc6⟩
  have hz6 := hc6.size
  replace hb2 := hb2.chg0 hc6
  replace hb3' := hb3'.chg0 hc6
  replace oA := oA.chg hc6 (by omega)
  have sB : vb'.oneCell' = true := by
    obtain ⟨_, _, hsh, _⟩ := oB.own.shape
    rw [hsh]; rfl
  refine WL.fldst hb3' ?_ (hu := sB)
  intro p4 w7 hb3'' hbut7
  have hc7 := hbut7.chg
  have hz7 := hc7.size
  replace hb2 := hb2.chg hc7 (by omega)
  replace oA := oA.chg hc7 (by omega)
  replace oB := oB.chg hc7 (by omega)
  repeat' (first | refine WL.step (o_s (by rfl) ?_) | refine WL.step (o_len (by rfl) ?_) | refine WL.step (o_add (by rfl) (by rfl) (by unfold InI; omega) ?_) | refine WL.step (o_sub (by rfl) (by rfl) (by unfold InI; omega) ?_) | refine WL.step (OpW.pass (by rfl) ?_) | refine WL.nil ?_ | refine thenN ?_ | refine WP.region ?_ | refine WP.seq ?_ | refine WP.block ?_ | refine thenR ?_ | refine thenX ?_ | refine blkN ?_ | refine blkHit ?_ | refine blkR ?_ | refine blkMiss (by rfl) ?_ | refine WP.ret ?_ | refine WP.exit ?_ | refine WP.skip ?_ | refine WP.label ?_ | refine WP.condT (by rfl) ?_ | refine WP.condF (by rfl) ?_ | fail)
  refine WL.step (o_loadS (by rfl) hb3'' (by rfl) ?_)
  refine WL.step (o_storeS (vs := [va', vb']) (by rfl) (by rfl) hb2 (by rfl) (by rfl) (fun u hu => by
    simp only [List.mem_cons, List.not_mem_nil, or_false] at hu
    rcases hu with rfl | rfl
    · exact sA
    · exact sB) ?_)
  intro w8 hb2' hbut8
  have hc8 := hbut8.chg
  have hz8 := hc8.size
  replace oA := oA.chg hc8 (by omega)
  replace oB := oB.chg hc8 (by omega)
  repeat' (first | refine WL.step (o_s (by rfl) ?_) | refine WL.step (o_len (by rfl) ?_) | refine WL.step (o_add (by rfl) (by rfl) (by unfold InI; omega) ?_) | refine WL.step (o_sub (by rfl) (by rfl) (by unfold InI; omega) ?_) | refine WL.step (OpW.pass (by rfl) ?_) | refine WL.nil ?_ | refine thenN ?_ | refine WP.region ?_ | refine WP.seq ?_ | refine WP.block ?_ | refine thenR ?_ | refine thenX ?_ | refine blkN ?_ | refine blkHit ?_ | refine blkR ?_ | refine blkMiss (by rfl) ?_ | refine WP.ret ?_ | refine WP.exit ?_ | refine WP.skip ?_ | refine WP.label ?_ | refine WP.condT (by rfl) ?_ | refine WP.condF (by rfl) ?_ | fail)
  refine ⟨_, retS rfl (by rfl) hb2' (by rfl), ?_, ?_⟩
  · have hs7 := hbut7.size
    have hs8 := hbut8.size
    have hs5 := hbut5.size
    have h1 : OwSS 23 2 w.heap.size w5.heap.size w8 va' x.1 := oA.wide (by omega) (by omega) (by omega)
    have h2 : OwI 2 w5.heap.size w8.heap.size w8 vb' x.2 := oB.wide (by omega) (by omega) (by omega)
    exact OwT.mk h1 h2 (by omega) (by omega)
  · refine ⟨?_, ?_, ?_, by omega, fun k hk hd => ?_⟩
    · rw [hc8.os, hc7.os, hc6.os, hc5.os, hc4.os, hbl13.os]
    · rw [hc8.tape, hc7.tape, hc6.tape, hc5.tape, hc4.tape, hbl13.tape]
    · rw [hc8.output, hc7.output, hc6.output, hc5.output, hc4.output, hbl13.output]
    · rw [hc8.block k (by omega) (by omega), hc7.block k (by omega) (by omega), hc6.block k (by omega) (by omega), hc5.block k (by omega) (by omega), hc4.block k (by omega) (by omega), hbl13.block k hk]
theorem eqT_same {lo hi lo' hi' : Nat} {w : World} {v v' : Value} {x : TabD} (h : IT lo hi w v x) (h' : IT lo' hi' w v' x) :
    Does Try.prog 20 [v, v'] w fun r w' => r = .bool true ∧ Chg 0 0 w w' := by
  obtain ⟨va, vb, rfl, hA, hB⟩ := h
  obtain ⟨va', vb', rfl, hA', hB'⟩ := h'
  refine Does.enter Try.func20 Try.ntmps20 rfl (by rfl) ?_
  repeat' (first | refine WL.step (o_s (by rfl) ?_) | refine WL.step (o_len (by rfl) ?_) | refine WL.step (o_add (by rfl) (by rfl) (by unfold InI; omega) ?_) | refine WL.step (o_sub (by rfl) (by rfl) (by unfold InI; omega) ?_) | refine WL.step (OpW.pass (by rfl) ?_) | refine WL.nil ?_ | refine thenN ?_ | refine WP.region ?_ | refine WP.seq ?_ | refine WP.block ?_ | refine thenR ?_ | refine thenX ?_ | refine blkN ?_ | refine blkHit ?_ | refine blkR ?_ | refine blkMiss (by rfl) ?_ | refine WP.ret ?_ | refine WP.exit ?_ | refine WP.skip ?_ | refine WP.label ?_ | refine WP.condT (by rfl) ?_ | refine WP.condF (by rfl) ?_ | fail)
  refine WL.step (o_box (by rfl) ?_)
  intro w1 hb1 hbl1 hz1
  refine WL.step (o_box (by rfl) ?_)
  intro w2 hb2 hbl2 hz2
  have hbl : Below w.heap.size w w2 := hbl1.trans (Below.mono hbl2 (by omega))
  replace hb1 := hb1.below hbl2 (by omega)
  replace hA := hA.below IS.stable hbl hA.hi_le
  replace hB := hB.below RI.stable hbl hB.hi_le
  replace hA' := hA'.below IS.stable hbl hA'.hi_le
  replace hB' := hB'.below RI.stable hbl hB'.hi_le
  repeat' (first | refine WL.step (o_s (by rfl) ?_) | refine WL.step (o_len (by rfl) ?_) | refine WL.step (o_add (by rfl) (by rfl) (by unfold InI; omega) ?_) | refine WL.step (o_sub (by rfl) (by rfl) (by unfold InI; omega) ?_) | refine WL.step (OpW.pass (by rfl) ?_) | refine WL.nil ?_ | refine thenN ?_ | refine WP.region ?_ | refine WP.seq ?_ | refine WP.block ?_ | refine thenR ?_ | refine thenX ?_ | refine blkN ?_ | refine blkHit ?_ | refine blkR ?_ | refine blkMiss (by rfl) ?_ | refine WP.ret ?_ | refine WP.exit ?_ | refine WP.skip ?_ | refine WP.label ?_ | refine WP.condT (by rfl) ?_ | refine WP.condF (by rfl) ?_ | fail)
  refine WL.fld hb1 ?_
  intro p1
  refine WL.fld hb2 ?_
  intro p2
  refine WL.call (eqInt64SS_any hA hA') ?_
  rintro _ w3 ⟨rfl, hs3⟩
  rw [decide_eq_true rfl]
  repeat' (first | refine WL.step (o_s (by rfl) ?_) | refine WL.step (o_len (by rfl) ?_) | refine WL.step (o_add (by rfl) (by rfl) (by unfold InI; omega) ?_) | refine WL.step (o_sub (by rfl) (by rfl) (by unfold InI; omega) ?_) | refine WL.step (OpW.pass (by rfl) ?_) | refine WL.nil ?_ | refine thenN ?_ | refine WP.region ?_ | refine WP.seq ?_ | refine WP.block ?_ | refine thenR ?_ | refine thenX ?_ | refine blkN ?_ | refine blkHit ?_ | refine blkR ?_ | refine blkMiss (by rfl) ?_ | refine WP.ret ?_ | refine WP.exit ?_ | refine WP.skip ?_ | refine WP.label ?_ | refine WP.condT (by rfl) ?_ | refine WP.condF (by rfl) ?_ | fail)
  refine WL.fld (hb1.still hs3) ?_
  intro p3
  refine WL.fld (hb2.still hs3) ?_
  intro p4
  refine WL.call (eqInt64S_any (hB.still RI.stable hs3) (hB'.still RI.stable hs3)) ?_
  rintro _ w4 ⟨rfl, hs4⟩
  rw [decide_eq_true rfl]
  repeat' (first | refine WL.step (o_s (by rfl) ?_) | refine WL.step (o_len (by rfl) ?_) | refine WL.step (o_add (by rfl) (by rfl) (by unfold InI; omega) ?_) | refine WL.step (o_sub (by rfl) (by rfl) (by unfold InI; omega) ?_) | refine WL.step (OpW.pass (by rfl) ?_) | refine WL.nil ?_ | refine thenN ?_ | refine WP.region ?_ | refine WP.seq ?_ | refine WP.block ?_ | refine thenR ?_ | refine thenX ?_ | refine blkN ?_ | refine blkHit ?_ | refine blkR ?_ | refine blkMiss (by rfl) ?_ | refine WP.ret ?_ | refine WP.exit ?_ | refine WP.skip ?_ | refine WP.label ?_ | refine WP.condT (by rfl) ?_ | refine WP.condF (by rfl) ?_ | fail)
  refine ⟨_, ret1 rfl (by rfl), ?_⟩
  exact ⟨rfl, Chg.of_below (hbl.trans ((hs3.trans hs4).below _))⟩
theorem markT_any {lo hi : Nat} {w : World} {v : Value} {x : TabD} {k : Int} (h : OwT 23 2 lo hi w v x) (hk : 0 ≤ k) (hk2 : k + tabCnt x ≤ 4611686018427387904) :
    Does Try.prog 21 [v, .int .i64 k] w fun r w' => r = .int .i64 (k + tabCnt x) ∧ OwT 23 2 lo hi w' v (markT k x) ∧ Chg lo hi w w' := by
  obtain ⟨va, vb, vs, rfl, h⟩ := h
  have hA := h.rows
  have hB := h.last
  have hAz := hA.hi_le
  have hcnt : (tabCnt x : Int) = cntSS x.1 + x.2.length := by unfold tabCnt; omega
  refine Does.enter Try.func21 Try.ntmps21 rfl (by rfl) ?_
  repeat' (first | refine WL.step (o_s (by rfl) ?_) | refine WL.step (o_len (by rfl) ?_) | refine WL.step (o_add (by rfl) (by rfl) (by unfold InI; omega) ?_) | refine WL.step (o_sub (by rfl) (by rfl) (by unfold InI; omega) ?_) | refine WL.step (OpW.pass (by rfl) ?_) | refine WL.nil ?_ | refine thenN ?_ | refine WP.region ?_ | refine WP.seq ?_ | refine WP.block ?_ | refine thenR ?_ | refine thenX ?_ | refine blkN ?_ | refine blkHit ?_ | refine blkR ?_ | refine blkMiss (by rfl) ?_ | refine WP.ret ?_ | refine WP.exit ?_ | refine WP.skip ?_ | refine WP.label ?_ | refine WP.condT (by rfl) ?_ | refine WP.condF (by rfl) ?_ | fail)
  refine WL.step (o_box (by rfl) ?_)
  intro w1 hb1 hbl1 hz1
  have hc1 := Chg.of_below hbl1
  replace hA := hA.chg hc1 (by omega)
  replace hB := hB.chg hc1 (by omega)
  repeat' (first | refine WL.step (o_s (by rfl) ?_) | refine WL.step (o_len (by rfl) ?_) | refine WL.step (o_add (by rfl) (by rfl) (by unfold InI; omega) ?_) | refine WL.step (o_sub (by rfl) (by rfl) (by unfold InI; omega) ?_) | refine WL.step (OpW.pass (by rfl) ?_) | refine WL.nil ?_ | refine thenN ?_ | refine WP.region ?_ | refine WP.seq ?_ | refine WP.block ?_ | refine thenR ?_ | refine thenX ?_ | refine blkN ?_ | refine blkHit ?_ | refine blkR ?_ | refine blkMiss (by rfl) ?_ | refine WP.ret ?_ | refine WP.exit ?_ | refine WP.skip ?_ | refine WP.label ?_ | refine WP.condT (by rfl) ?_ | refine WP.condF (by rfl) ?_ | fail)
  refine WL.fld hb1 ?_
  intro p1
  repeat' (first | refine WL.step (o_s (by rfl) ?_) | refine WL.step (o_len (by rfl) ?_) | refine WL.step (o_add (by rfl) (by rfl) (by unfold InI; omega) ?_) | refine WL.step (o_sub (by rfl) (by rfl) (by unfold InI; omega) ?_) | refine WL.step (OpW.pass (by rfl) ?_) | refine WL.nil ?_ | refine thenN ?_ | refine WP.region ?_ | refine WP.seq ?_ | refine WP.block ?_ | refine thenR ?_ | refine thenX ?_ | refine blkN ?_ | refine blkHit ?_ | refine blkR ?_ | refine blkMiss (by rfl) ?_ | refine WP.ret ?_ | refine WP.exit ?_ | refine WP.skip ?_ | refine WP.label ?_ | refine WP.condT (by rfl) ?_ | refine WP.condF (by rfl) ?_ | fail)
  refine WL.call (markSS_any (k := k) hA hk (by omega)) ?_
  rintro _ w2 ⟨rfl, hA2, hbl2, hz2, hf2⟩
  have hb2 : Blk w2 w.heap.size (Value.agg #[va, vb]).cells.toList 29 := hb1.keep (hf2 _ fun i u hu e => by
    obtain ⟨xs, hx⟩ : ∃ xs, x.1[i]? = some xs := ⟨_, List.getElem?_eq_getElem (by rw [← hA.len]; exact (List.getElem?_eq_some_iff.1 hu).1)⟩
    have := (hA.rows i u xs hu hx).lt _ e
    omega)
  have hB2 : OwI 2 lo hi w2 vb x.2 := ⟨hB.own.keep fun k hk => hf2 k fun i u hu hk2 => h.apart i u hu k hk2 hk, hB.lt, by rw [hz2]; exact hB.hi_le⟩
  repeat' (first | refine WL.step (o_s (by rfl) ?_) | refine WL.step (o_len (by rfl) ?_) | refine WL.step (o_add (by rfl) (by rfl) (by unfold InI; omega) ?_) | refine WL.step (o_sub (by rfl) (by rfl) (by unfold InI; omega) ?_) | refine WL.step (OpW.pass (by rfl) ?_) | refine WL.nil ?_ | refine thenN ?_ | refine WP.region ?_ | refine WP.seq ?_ | refine WP.block ?_ | refine thenR ?_ | refine thenX ?_ | refine blkN ?_ | refine blkHit ?_ | refine blkR ?_ | refine blkMiss (by rfl) ?_ | refine WP.ret ?_ | refine WP.exit ?_ | refine WP.skip ?_ | refine WP.label ?_ | refine WP.condT (by rfl) ?_ | refine WP.condF (by rfl) ?_ | fail)
  refine WL.fld hb2 ?_
  intro p2
  repeat' (first | refine WL.step (o_s (by rfl) ?_) | refine WL.step (o_len (by rfl) ?_) | refine WL.step (o_add (by rfl) (by rfl) (by unfold InI; omega) ?_) | refine WL.step (o_sub (by rfl) (by rfl) (by unfold InI; omega) ?_) | refine WL.step (OpW.pass (by rfl) ?_) | refine WL.nil ?_ | refine thenN ?_ | refine WP.region ?_ | refine WP.seq ?_ | refine WP.block ?_ | refine thenR ?_ | refine thenX ?_ | refine blkN ?_ | refine blkHit ?_ | refine blkR ?_ | refine blkMiss (by rfl) ?_ | refine WP.ret ?_ | refine WP.exit ?_ | refine WP.skip ?_ | refine WP.label ?_ | refine WP.condT (by rfl) ?_ | refine WP.condF (by rfl) ?_ | fail)
  refine WL.call (markInt64S_any (k := k + cntSS x.1) hB2.own (by omega) (by omega)) ?_
  rintro _ w3 ⟨rfl, hB3, hbl3, hz3, hf3⟩
  repeat' (first | refine WL.step (o_s (by rfl) ?_) | refine WL.step (o_len (by rfl) ?_) | refine WL.step (o_add (by rfl) (by rfl) (by unfold InI; omega) ?_) | refine WL.step (o_sub (by rfl) (by rfl) (by unfold InI; omega) ?_) | refine WL.step (OpW.pass (by rfl) ?_) | refine WL.nil ?_ | refine thenN ?_ | refine WP.region ?_ | refine WP.seq ?_ | refine WP.block ?_ | refine thenR ?_ | refine thenX ?_ | refine blkN ?_ | refine blkHit ?_ | refine blkR ?_ | refine blkMiss (by rfl) ?_ | refine WP.ret ?_ | refine WP.exit ?_ | refine WP.skip ?_ | refine WP.label ?_ | refine WP.condT (by rfl) ?_ | refine WP.condF (by rfl) ?_ | fail)
  refine ⟨_, ret1 rfl (by rfl), ?_⟩
  refine ⟨by rw [hcnt, Int.add_assoc], ⟨va, vb, vs, rfl, hA2.keepBut hB2.own h.apart hz3 hf3, ⟨hB3, hB2.lt, by rw [hz3]; exact hB2.hi_le⟩, h.apart⟩, ?_⟩
  refine ⟨by rw [hbl3.os, hbl2.os, hbl1.os], by rw [hbl3.tape, hbl2.tape, hbl1.tape], by rw [hbl3.output, hbl2.output, hbl1.output], by omega, fun j hj hd => ?_⟩
  rw [hf3 j ?_, hf2 j ?_, hbl1.block j hj]
  · intro i u hu e
    obtain ⟨xs, hx⟩ : ∃ xs, x.1[i]? = some xs := ⟨_, List.getElem?_eq_getElem (by rw [← hA.len]; exact (List.getElem?_eq_some_iff.1 hu).1)⟩
    have hr := hA.rows i u xs hu hx
    have a1 := hr.lt _ e
    have a2 := (hr.own.block _ e).1
    omega
  · intro e
    have a1 := hB.lt _ e
    have a2 := (hB.own.block _ e).1
    omega
theorem heldT {lo hi : Nat} {w : World} {v : Value} {x : TabD} {k : Int} (h : IT lo hi w v (markT k x)) (hk : 0 ≤ k) (hk2 : k + tabCnt x ≤ 4611686018427387904) :
    Does Try.prog 28 [v, .int .i64 k] w fun r w' => r = .int .i64 (k + tabCnt x) ∧ Chg 0 0 w w' := by
  obtain ⟨va, vb, rfl, hA, hB⟩ := h
  have hcnt : (tabCnt x : Int) = cntSS x.1 + x.2.length := by unfold tabCnt; omega
  refine Does.enter Try.func28 Try.ntmps28 rfl (by rfl) ?_
  repeat' (first | refine WL.step (o_s (by rfl) ?_) | refine WL.step (o_len (by rfl) ?_) | refine WL.step (o_add (by rfl) (by rfl) (by unfold InI; omega) ?_) | refine WL.step (o_sub (by rfl) (by rfl) (by unfold InI; omega) ?_) | refine WL.step (OpW.pass (by rfl) ?_) | refine WL.nil ?_ | refine thenN ?_ | refine WP.region ?_ | refine WP.seq ?_ | refine WP.block ?_ | refine thenR ?_ | refine thenX ?_ | refine blkN ?_ | refine blkHit ?_ | refine blkR ?_ | refine blkMiss (by rfl) ?_ | refine WP.ret ?_ | refine WP.exit ?_ | refine WP.skip ?_ | refine WP.label ?_ | refine WP.condT (by rfl) ?_ | refine WP.condF (by rfl) ?_ | fail)
  refine WL.step (o_box (by rfl) ?_)
  intro w1 hb1 hbl1 hz1
  replace hA := hA.below IS.stable hbl1 hA.hi_le
  replace hB := hB.below RI.stable hbl1 hB.hi_le
  repeat' (first | refine WL.step (o_s (by rfl) ?_) | refine WL.step (o_len (by rfl) ?_) | refine WL.step (o_add (by rfl) (by rfl) (by unfold InI; omega) ?_) | refine WL.step (o_sub (by rfl) (by rfl) (by unfold InI; omega) ?_) | refine WL.step (OpW.pass (by rfl) ?_) | refine WL.nil ?_ | refine thenN ?_ | refine WP.region ?_ | refine WP.seq ?_ | refine WP.block ?_ | refine thenR ?_ | refine thenX ?_ | refine blkN ?_ | refine blkHit ?_ | refine blkR ?_ | refine blkMiss (by rfl) ?_ | refine WP.ret ?_ | refine WP.exit ?_ | refine WP.skip ?_ | refine WP.label ?_ | refine WP.condT (by rfl) ?_ | refine WP.condF (by rfl) ?_ | fail)
  refine WL.fld hb1 ?_
  intro p1
  repeat' (first | refine WL.step (o_s (by rfl) ?_) | refine WL.step (o_len (by rfl) ?_) | refine WL.step (o_add (by rfl) (by rfl) (by unfold InI; omega) ?_) | refine WL.step (o_sub (by rfl) (by rfl) (by unfold InI; omega) ?_) | refine WL.step (OpW.pass (by rfl) ?_) | refine WL.nil ?_ | refine thenN ?_ | refine WP.region ?_ | refine WP.seq ?_ | refine WP.block ?_ | refine thenR ?_ | refine thenX ?_ | refine blkN ?_ | refine blkHit ?_ | refine blkR ?_ | refine blkMiss (by rfl) ?_ | refine WP.ret ?_ | refine WP.exit ?_ | refine WP.skip ?_ | refine WP.label ?_ | refine WP.condT (by rfl) ?_ | refine WP.condF (by rfl) ?_ | fail)
  refine WL.call (heldSS_any (k := k) hA hk (by omega)) ?_
  rintro _ w2 ⟨rfl, hs2⟩
  repeat' (first | refine WL.step (o_s (by rfl) ?_) | refine WL.step (o_len (by rfl) ?_) | refine WL.step (o_add (by rfl) (by rfl) (by unfold InI; omega) ?_) | refine WL.step (o_sub (by rfl) (by rfl) (by unfold InI; omega) ?_) | refine WL.step (OpW.pass (by rfl) ?_) | refine WL.nil ?_ | refine thenN ?_ | refine WP.region ?_ | refine WP.seq ?_ | refine WP.block ?_ | refine thenR ?_ | refine thenX ?_ | refine blkN ?_ | refine blkHit ?_ | refine blkR ?_ | refine blkMiss (by rfl) ?_ | refine WP.ret ?_ | refine WP.exit ?_ | refine WP.skip ?_ | refine WP.label ?_ | refine WP.condT (by rfl) ?_ | refine WP.condF (by rfl) ?_ | fail)
  try (refine WP.condD (by rfl) (fun hbad => False.elim (by first | exact hbad rfl | omega)) (fun _ => ?_))
  repeat' (first | refine WL.step (o_s (by rfl) ?_) | refine WL.step (o_len (by rfl) ?_) | refine WL.step (o_add (by rfl) (by rfl) (by unfold InI; omega) ?_) | refine WL.step (o_sub (by rfl) (by rfl) (by unfold InI; omega) ?_) | refine WL.step (OpW.pass (by rfl) ?_) | refine WL.nil ?_ | refine thenN ?_ | refine WP.region ?_ | refine WP.seq ?_ | refine WP.block ?_ | refine thenR ?_ | refine thenX ?_ | refine blkN ?_ | refine blkHit ?_ | refine blkR ?_ | refine blkMiss (by rfl) ?_ | refine WP.ret ?_ | refine WP.exit ?_ | refine WP.skip ?_ | refine WP.label ?_ | refine WP.condT (by rfl) ?_ | refine WP.condF (by rfl) ?_ | fail)
  refine WL.fld (hb1.still hs2) ?_
  intro p2
  repeat' (first | refine WL.step (o_s (by rfl) ?_) | refine WL.step (o_len (by rfl) ?_) | refine WL.step (o_add (by rfl) (by rfl) (by unfold InI; omega) ?_) | refine WL.step (o_sub (by rfl) (by rfl) (by unfold InI; omega) ?_) | refine WL.step (OpW.pass (by rfl) ?_) | refine WL.nil ?_ | refine thenN ?_ | refine WP.region ?_ | refine WP.seq ?_ | refine WP.block ?_ | refine thenR ?_ | refine thenX ?_ | refine blkN ?_ | refine blkHit ?_ | refine blkR ?_ | refine blkMiss (by rfl) ?_ | refine WP.ret ?_ | refine WP.exit ?_ | refine WP.skip ?_ | refine WP.label ?_ | refine WP.condT (by rfl) ?_ | refine WP.condF (by rfl) ?_ | fail)
  refine WL.call (heldInt64S_any (k := k + cntSS x.1) (n := x.2.length) (hB.still RI.stable hs2) (by omega) (by omega)) ?_
  rintro _ w3 ⟨rfl, hs3⟩
  repeat' (first | refine WL.step (o_s (by rfl) ?_) | refine WL.step (o_len (by rfl) ?_) | refine WL.step (o_add (by rfl) (by rfl) (by unfold InI; omega) ?_) | refine WL.step (o_sub (by rfl) (by rfl) (by unfold InI; omega) ?_) | refine WL.step (OpW.pass (by rfl) ?_) | refine WL.nil ?_ | refine thenN ?_ | refine WP.region ?_ | refine WP.seq ?_ | refine WP.block ?_ | refine thenR ?_ | refine thenX ?_ | refine blkN ?_ | refine blkHit ?_ | refine blkR ?_ | refine blkMiss (by rfl) ?_ | refine WP.ret ?_ | refine WP.exit ?_ | refine WP.skip ?_ | refine WP.label ?_ | refine WP.condT (by rfl) ?_ | refine WP.condF (by rfl) ?_ | fail)
  try (refine WP.condD (by rfl) (fun hbad => False.elim (by first | exact hbad rfl | omega)) (fun _ => ?_))
  repeat' (first | refine WL.step (o_s (by rfl) ?_) | refine WL.step (o_len (by rfl) ?_) | refine WL.step (o_add (by rfl) (by rfl) (by unfold InI; omega) ?_) | refine WL.step (o_sub (by rfl) (by rfl) (by unfold InI; omega) ?_) | refine WL.step (OpW.pass (by rfl) ?_) | refine WL.nil ?_ | refine thenN ?_ | refine WP.region ?_ | refine WP.seq ?_ | refine WP.block ?_ | refine thenR ?_ | refine thenX ?_ | refine blkN ?_ | refine blkHit ?_ | refine blkR ?_ | refine blkMiss (by rfl) ?_ | refine WP.ret ?_ | refine WP.exit ?_ | refine WP.skip ?_ | refine WP.label ?_ | refine WP.condT (by rfl) ?_ | refine WP.condF (by rfl) ?_ | fail)
  refine ⟨_, ret1 rfl (by rfl), ?_⟩
  exact ⟨by rw [hcnt, Int.add_assoc], Chg.of_below (hbl1.trans ((hs2.trans hs3).below _))⟩
end Go.Proofs
