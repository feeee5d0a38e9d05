/- Append, with the block of its result told: the old one or a new one. -/
import Derived.Test.YtgjpdjblchgfdaaApp
import Derived.Test.YtgjpdjblchgfdaaH5
namespace Go.Fw
open Go Go.RowKit
section
variable {P : Program} {N : Nat} {Q : Exit → Fr → World → Prop} {l : Fr} {w : World} {ops : Array Oper} {K : Fr → World → Prop}
variable {d : Nat} {ty : TypeId} {pos : String} {af : Array Edge} {g : Option (Nat × Bool)}

theorem append_block {t e : TypeId} {z : Value} {bytes : Nat} (h : SliceTy P t e z bytes) {lo : Nat} {v vx : Value} {us news : List Value} (hown : Own lo e w v us) (hsrc : Src w vx news) (h1 : ∀ u ∈ news, u.oneCell' = true)
    (hm : us.length + news.length ≤ maxLen) (hb : (us.length + news.length) * bytes ≤ 140737488355328) (hne : news ≠ []) {v' : Value} {w' : World} (hr : (Builtin.append_ #[t, t] ty #[v, vx]).run P w = .ok v' w') :
    v'.ownBlock = v.ownBlock ∨ v'.ownBlock = some w.heap.size := by
  obtain ⟨i0, hi, hz0, hz1, hz2⟩ := info_parts h.info
  obtain ⟨a, c, rfl, hs⟩ := hsrc
  cases a with
  | none =>
    cases news with
    | nil => exact absurd rfl hne
    | cons u r => obtain ⟨b, o, he, _⟩ := hs 0 u (by simp); cases he
  | some ad =>
    have hnews : ∀ j u, news[j]? = some u → w.cell? (ad.add j) = some u := fun j u hu => by
      obtain ⟨b, o, he, hc⟩ := hs j u hu
      simp only [Option.some.injEq] at he
      subst he
      have : (⟨b, o, none⟩ : Addr).add j = ⟨b, o + j, none⟩ := by unfold Addr.add; split <;> simp_all
      rw [this]; exact hc
    have hpos : 0 < news.length := by cases news with
      | nil => exact absurd rfl hne
      | cons u r => simp
    have hl1 : news.length = news.length * i0.size := by rw [hz1, Nat.mul_one]
    obtain ⟨hxs, ⟨rfl, h0⟩ | ⟨g, cap, cur, rfl, hbg, hg, hnc, hcm, hcs, htake⟩⟩ := hown
    · have hr2 := run_append_nil (P := P) w t ty e i0 z h.und hi hz0 ad news.length c news hl1 hnews hpos (by have hmx : maxLen = 9223372036854775807 := rfl; omega) (by rw [hz2]; rw [h0, Nat.zero_add] at hb; omega)
      rw [hr] at hr2
      simp only [Result.ok.injEq] at hr2
      right
      rw [hr2.1]
      rfl
    · by_cases hroom : us.length + news.length ≤ cap
      · have hr2 := run_append_room (P := P) w t ty e i0 h.und hi g us.length cap cur hg ad news.length c news hl1 hnews h1 hroom (by rw [hz1, hcs]; omega)
        rw [hr] at hr2
        simp only [Result.ok.injEq] at hr2
        left
        rw [hr2.1]
        rfl
      · have holds : ∀ j u, us[j]? = some u → w.cell? ((⟨g, 0, none⟩ : Addr).add j) = some u := World.ownsRow.cells (base := lo) (e := e) (size := 1) (v := .slice (some ⟨g, 0, none⟩) us.length cap) (n := us.length) ⟨hxs, .inr ⟨g, cap, cur, rfl, hbg, hg, hnc, hcm, hcs, htake⟩⟩ rfl
        have hr2 := run_append_grow (P := P) w t ty e i0 z h.und hi hz0 ⟨g, 0, none⟩ us.length cap us (by rw [hz1, Nat.mul_one]) holds ad news.length c news hl1 hnews (by omega) (by unfold maxLen at hm; omega) (growslice_fits (by omega) (by rw [hz2]; exact hb))
        rw [hr] at hr2
        simp only [Result.ok.injEq] at hr2
        right
        rw [hr2.1]
        rfl
/-- append(s, x): the two operations of it; the result's block is the old one or a new one. -/
theorem o_append1K {t e : TypeId} {z : Value} {bytes : Nat} [h : SliceTy P t e z bytes] {lo d1 d2 : Nat} {s x y : Operand} {v u : Value} {us : List Value} {rest : List Oper} {ty1 ty2 : TypeId} {pos1 pos2 : String} {af1 af2 : Array Edge}
    (hs : ∀ u', ev ((d1, u') :: l) s = some v) (hx : ev l x = some u) (hown : Own lo e w v us) (h1 : u.oneCell' = true)
    (hm : us.length + 1 ≤ maxLen) (hb : (us.length + 1) * bytes ≤ 140737488355328) (hlo : lo ≤ w.heap.size)
    (k : ∀ p v' w', Own lo e w' v' (us ++ [u]) → Below lo w w' → (∀ k, k < w.heap.size → v.ownBlock ≠ some k → w'.heap[k]? = w.heap[k]?) → w.heap.size < w'.heap.size → (∀ k, v'.ownBlock = some k → v.ownBlock = some k ∨ w.heap.size ≤ k) → WL P N ops Q rest ((d2, v') :: (d1, p) :: l) w') (hy : y = .tmp d1 := by rfl)
    (hd1 : Nat.blt d1 N = true := by rfl) (hd2 : Nat.blt d2 N = true := by rfl) :
    WL P N ops Q (⟨some d1, .buildSlice t 1 #[(0, x)], ty1, pos1, af1, none⟩ :: ⟨some d2, .call { callee := .builtin .append, args := #[s, y], argTypes := #[t, t] }, ty2, pos2, af2, none⟩ :: rest) l w := by
  subst hy
  refine WL.step (o_lit (us := [u]) (by rfl) (by simp [evs, hx]) rfl (by decide) (by simpa using h1) ?_ rfl hd1)
  intro v1 w1 hown1 hb1 hz1 hv1
  have hown' : Own lo e w1 v us := hown.below hb1 (Nat.le_refl _)
  obtain ⟨v', w', hr, h2, h3, h4⟩ := run_append (ty := ty2) h hown' hown1.src (by simpa using h1) (by simpa using hm) (by simpa using hb) (by omega)
  have hbk := append_block h hown' hown1.src (by simpa using h1) (by simpa using hm) (by simpa using hb) (by simp) hr
  have hbl := grown_below h3 (show lo ≤ w1.heap.size by omega) fun k hk => (hown'.block k hk).1
  refine WL.step (OpW.val (w' := w') (v := v') (fun fr ha => ?_) ?_ rfl hd2)
  · have hx2 : fr.eval (.tmp d1) = v1 := ha.ev (show ev ((d1, v1) :: l) (.tmp d1) = some v1 from look_cons_self _ _ _)
    simp [execOp, resolve, invoke, builtin, ha.ev (hs v1), hx2, hr]
  · refine k v1 v' w' h2 ((Below.mono hb1 (by omega)).trans hbl) (fun k hk hne => ?_) (by have := h3.size; omega) (fun k hk => ?_)
    · rw [h3.block k (by omega) (fun e => hne e.symm), hb1.block k hk]
    · rcases hbk with h5 | h5
      · left; rw [← h5]; exact hk
      · right
        rw [h5] at hk
        simp only [Option.some.injEq] at hk
        omega
/-- append(s, x...), with the block of its result told. -/
theorem o_appendK {t e : TypeId} {z : Value} {bytes : Nat} [h : SliceTy P t e z bytes] {lo : Nat} {s x : Operand} {v vx : Value} {us news : List Value} (hs : ev l s = some v) (hx : ev l x = some vx) (hown : Own lo e w v us) (hsrc : Src w vx news) (h1 : ∀ u ∈ news, u.oneCell' = true)
    (hm : us.length + news.length ≤ maxLen) (hb : (us.length + news.length) * bytes ≤ 140737488355328) (hlo : lo ≤ w.heap.size) (hne : news ≠ [])
    (k : ∀ v' w', Own lo e w' v' (us ++ news) → w.grownBy w' v.ownBlock → Below lo w w' → (∀ k, v'.ownBlock = some k → v.ownBlock = some k ∨ w.heap.size ≤ k) → K ((d, v') :: l) w')
    (hg : wantedL ops l g = some true := by rfl) (hd : Nat.blt d N = true := by rfl) : OpW P N ops Q ⟨some d, .call { callee := .builtin .append, args := #[s, x], argTypes := #[t, t] }, ty, pos, af, g⟩ l w K := by
  obtain ⟨v', w', hr, h2, h3, h4⟩ := run_append (ty := ty) h hown hsrc h1 hm hb hlo
  have hbk := append_block h hown hsrc h1 hm hb hne hr
  refine OpW.val (w' := w') (v := v') (fun fr ha => ?_) (k v' w' h2 h3 (grown_below h3 hlo fun k hk => (hown.block k hk).1) (fun k hk => ?_)) hg hd
  · simp [execOp, resolve, invoke, builtin, ha.ev hs, ha.ev hx, hr]
  · rcases hbk with h5 | h5
    · left; rw [← h5]; exact hk
    · right
      rw [h5] at hk
      simp only [Option.some.injEq] at hk
      omega
end
theorem IT.below {lo hi B : Nat} {w w' : World} {v : Value} {x : TabD} (h : IT lo hi w v x) (hb : Below B w w') (hB : hi ≤ B) : IT lo hi w' v x := by
  obtain ⟨va, vb, rfl, h1, h2⟩ := h
  exact ⟨va, vb, rfl, h1.below IS.stable hb hB, h2.below RI.stable hb hB⟩
end Go.Fw
