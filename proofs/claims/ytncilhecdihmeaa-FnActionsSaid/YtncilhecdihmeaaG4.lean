/- The exact map, and the order of a character, both sides. -/
import Derived.Test.YtncilhecdihmeaaG3
set_option maxRecDepth 8000
namespace Go.Rk
open Go.Fw Go.Proofs
def exactL : List Int := 1 :: (treesTo 6).map fun t => powN (nm (densL 8 t)) 10005
theorem exactL_len : exactL.length = 38 := by unfold exactL; rw [List.length_cons, List.length_map, treesTo_len]
theorem cons_map_get {α : Type} (x : Int) (l : List α) (f : α → Int) {i : Nat} (h : i < l.length) (h2 : i + 1 < (x :: l.map f).length) : (x :: l.map f)[i + 1] = f l[i] := by simp
theorem exactL_get {i : Nat} (h : i < (treesTo 6).length) (h2 : i + 1 < exactL.length) : exactL[i + 1] = powN (nm (densL 8 (treesTo 6)[i])) 10005 := cons_map_get 1 (treesTo 6) (fun t => powN (nm (densL 8 t)) 10005) h h2
theorem exactL_all : allN exactL = true := allN_of fun y hy => by
  unfold exactL at hy
  rcases List.mem_cons.1 hy with rfl | hy
  · kernel_rfl
  · obtain ⟨t, _, rfl⟩ := List.mem_map.1 hy
    have := powN_bd (nm (densL 8 t)) 10005
    simp [isN]; exact this
theorem isMap_of {a : List Int} (h : a.length = 38) (h2 : allN a = true) : isMap a = true := by unfold isMap; rw [Bool.and_eq_true, decide_eq_true_eq]; exact ⟨h, h2⟩
def orderOfMap (a : List Int) : Int × Int := if chCode a = 0 then (agreeL a exactL, 0) else (0, chCode a)
theorem unit_fill : Ints unitM = Ints (exactL.take 1) ++ List.replicate (exactL.length - 1) (.int .i64 0) := by
  rw [exactL_len]
  rfl
theorem getD_get {a : List Int} (h : 0 < a.length) : a.getD 0 0 = a[0] := by rw [List.getD_eq_getElem?_getD, List.getElem?_eq_getElem h]; rfl
theorem chCode_cases (a : List Int) : (chCode a = 0 ∧ isMap a = true ∧ a.getD 0 0 = 1) ∨ (chCode a = 5 ∧ isMap a = true ∧ a.getD 0 0 ≠ 1) ∨ (chCode a = 1 ∧ isMap a = false) := by
  unfold chCode
  cases h : isMap a with
  | false => rw [if_neg (by decide)]; exact Or.inr (Or.inr ⟨rfl, rfl⟩)
  | true =>
    rw [if_pos rfl]
    by_cases h1 : a.getD 0 0 = 1
    · rw [if_neg (fun h2 => h2 h1)]; exact Or.inl ⟨rfl, rfl, h1⟩
    · rw [if_pos h1]; exact Or.inr (Or.inl ⟨rfl, rfl, h1⟩)
end Go.Rk
namespace Go.Proofs
open Go Go.Fw Go.RowKit Go.Rk
theorem FormsI.slices {lo hi : Nat} {w : World} {vt vc : Value} (h : FormsI lo hi w (.agg #[vt, vc])) : ∀ x ∈ [vt, vc], x.oneCell' = true := fun x hx => by
  obtain ⟨vt', vc', he, h1, h2⟩ := h
  obtain ⟨a1, c1, hv1⟩ := h1.shape
  obtain ⟨a2, c2, hv2⟩ := h2.shape
  simp only [Value.agg.injEq] at he
  have he2 : [vt, vc] = [vt', vc'] := congrArg Array.toList he
  rw [he2] at hx
  simp only [List.mem_cons, List.not_mem_nil, or_false] at hx
  rcases hx with rfl | rfl
  · rw [hv1]; rfl
  · rw [hv2]; rfl
end Go.Proofs
