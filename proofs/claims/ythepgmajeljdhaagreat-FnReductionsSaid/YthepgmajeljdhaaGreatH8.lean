/- A row is put behind the rows of a field: x.f = append(x.f, row), the last of a drawn region. -/
import Derived.Test.YthepgmajeljdhaaGreatH7
import Derived.Test.YthepgmajeljdhaaGreatHB
namespace Go.Fw
open Go Go.RowKit
section
variable {P : Program} {N : Nat} {Q : Exit → Fr → World → Prop} {l : Fr} {w w0 : World} {ops : Array Oper}
theorem WS.pushRow {t e st f off m1 m2 m3 m4 d1 d2 d3 b B lo hi s hi2 bytes : Nat} {e2 tt : TypeId} {z : Value} [SliceTy P t e z bytes] [CellTy P t] [FieldTy P st f off] {x1 s1 x2 x3 x4 y4 : Operand}
    {cs : List Value} {vo vr : Value} {xss : List (List Int)} {ys : List Int} {ty1 ty2 ty3 ty4 : TypeId} {pos1 pos2 pos3 pos4 : String} {af1 af2 af3 af4 : Array Edge}
    (hi1 : ops[m1]? = some ⟨some d1, .buildSlice t 1 #[(0, x1)], ty1, pos1, af1, none⟩)
    (hi2' : ops[m2]? = some ⟨some d2, .call { callee := .builtin .append, args := #[s1, x2], argTypes := #[t, t] }, ty2, pos2, af2, none⟩)
    (hi3 : ops[m3]? = some ⟨some d3, .fieldAddr st x3 f, ty3, pos3, af3, none⟩) (hi4 : ops[m4 - 1000]? = some ⟨none, .store t x4 y4, ty4, pos4, af4, none⟩)
    (hS : Below B w0 w) (hb : Blk w b cs tt) (hcs : cs[off]? = some vo) (hbB : b < B) (hBlo : B ≤ lo) (_hBw : B ≤ w0.heap.size) (hlow : lo ≤ w.heap.size)
    (oA : OwSS e e2 lo hi w vo xss) (hhi : hi ≤ s) (hls : lo ≤ s) (oR : OwI e2 s hi2 w vr ys) (hn : xss.length ≤ 1000000) (hby : bytes ≤ 1000)
    (k : ∀ p v1 v' w9 w', v'.oneCell' = true → Blk w' b (cs.set off v') tt → OwSS e e2 lo w'.heap.size w' v' (xss ++ [ys]) → Below lo w w9 → But b w9 w' → WS P N ops Q (fun w' => Below B w0 w') [] ((d3, p) :: (d2, v') :: (d1, v1) :: l) w')
    (hx1 : ev l x1 = some vr := by rfl) (hs1 : ∀ u, ev ((d1, u) :: l) s1 = some vo := by intro _; rfl) (hx2 : x2 = .tmp d1 := by rfl)
    (hx3 : ∀ u u', ev ((d2, u') :: (d1, u) :: l) x3 = some (.pointer (some ⟨b, 0, none⟩)) := by intro _ _; rfl) (hx4 : x4 = .tmp d3 := by rfl) (hy4 : ∀ p u u', ev ((d3, p) :: (d2, u') :: (d1, u) :: l) y4 = some u' := by intro _ _ _; rfl)
    (hd1 : Nat.blt d1 N = true := by rfl) (hd2 : Nat.blt d2 N = true := by rfl) (hd3 : Nat.blt d3 N = true := by rfl) (hm1 : Nat.blt m1 1000 = true := by rfl) (hm2 : Nat.blt m2 1000 = true := by rfl) (hm4 : Nat.ble 1000 m4 = true := by rfl) :
    WS P N ops Q (fun w' => Below B w0 w') [(m1, false), (m2, false), (m3, true), (m4, false)] l w := by
  subst hx2 hx4
  obtain ⟨ar, cr, hvr, _⟩ := oR.own.shape
  have h1r : vr.oneCell' = true := by rw [hvr]; rfl
  refine WS.op hi1 (o_lit (us := [vr]) (by rfl) (by simp [evs, hx1]) rfl (by decide) (one1 h1r) ?_ rfl hd1) hm1
  intro v8 w8 hown8 hbl8 hz8 _
  have hS8 : Below B w0 w8 := hS.trans (Below.mono hbl8 (by omega))
  refine ⟨hS8, ?_⟩
  obtain ⟨vs', oA⟩ := oA
  have hz1 := oA.hi_le
  have hz2 := oR.hi_le
  have oA8 := oA.chg (Chg.of_below hbl8) (by omega)
  have oR8 := oR.chg (Chg.of_below hbl8) (by omega)
  have hvl : vs'.length = xss.length := oA.len
  have hmul : (vs'.length + 1) * bytes ≤ 1000001 * 1000 := Nat.mul_le_mul (by omega) hby
  refine WS.op hi2' (o_append (us := vs') (news := [vr]) (hs1 v8) (look_cons_self _ _ _) oA8.own hown8.src (one1 h1r) (by simp [maxLen]; omega) (by show (vs'.length + 1) * bytes ≤ _; omega) (by omega) ?_ rfl hd2) hm2
  intro v9 w9 hown9 hg9 hbl9 _
  have hz9 := hg9.size
  have hS9 : Below B w0 w9 := hS8.trans (Below.mono hbl9 hBlo)
  refine ⟨hS9, ?_⟩
  have hb9 : Blk w9 b cs tt := (hb.below hbl8 hb.lt).keep (hbl9.block _ (by omega))
  have sn := oA8.snoc (oR8.wide (Nat.le_refl _) (by omega) (Nat.le_refl _)) hhi hls hown9 hz9 (fun k hk hne => hg9.block k hk (fun e => hne e.symm))
  obtain ⟨a9, c9, hv9, _⟩ := hown9.shape
  have h19 : v9.oneCell' = true := by rw [hv9]; rfl
  refine WS.fldst hi3 hi4 hb9 hS9 ?_ hcs (hx3 _ _) (fun p => hy4 p _ _) h19 rfl hd3 hm4
  intro p w10 hb10 hbut10
  have hz10 := hbut10.size
  refine k p v8 v9 w9 w10 h19 hb10 ⟨vs' ++ [vr], ?_⟩ ((Below.mono hbl8 hlow).trans hbl9) hbut10
  exact (sn.chg hbut10.chg (by omega)).wide (Nat.le_refl _) (by omega) (Nat.le_refl _)
end
theorem lit2 {e : TypeId} {lo l1 h1 l2 h2 : Nat} {w : World} {v u1 u2 : Value} {xs ys : List Int} (h : Own lo e w v [u1, u2]) (a : IS l1 h1 w u1 xs) (b : IS l2 h2 w u2 ys) : ISS 0 w.heap.size w v [xs, ys] :=
  h.toSL rfl (Nat.zero_le _) (fun k hk => (h.block k hk).2) (Nat.le_refl _) fun i u x hu hx => by
    match i with
    | 0 => simp at hu hx; subst hu hx; exact a.wide RI.stable (Nat.zero_le _) a.hi_le (Nat.le_refl _)
    | 1 => simp at hu hx; subst hu hx; exact b.wide RI.stable (Nat.zero_le _) b.hi_le (Nat.le_refl _)
    | _ + 2 => simp at hu
theorem two1 {u u' : Value} (h : u.oneCell' = true) (h' : u'.oneCell' = true) : ∀ x ∈ [u, u'], x.oneCell' = true := fun x hx => by
  simp only [List.mem_cons, List.not_mem_nil, or_false] at hx
  rcases hx with rfl | rfl
  · exact h
  · exact h'
end Go.Fw
