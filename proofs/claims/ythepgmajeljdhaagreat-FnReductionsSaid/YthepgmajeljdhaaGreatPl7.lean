/- Plain facts: the composition of tableaus. -/
import Derived.Test.YthepgmajeljdhaaGreatPlA
namespace Go.Rk
open Go.Fw Go.Proofs
def compA (x y : TabD) : List (List Int) := x.1.map (fun r => r ++ List.replicate y.2.length 0) ++ y.1.map (fun r => x.2 ++ r)
def composeL (x y : TabD) : TabD := (compA x y, x.2 ++ y.2)
def composeTableaus (x y : TabD) : TabD × Int := if isTab x = true ∧ isTab y = true then (if x.2.length + y.2.length > 8 then (([], []), 3) else (composeL x y, 0)) else (([], []), 1)
theorem compA_length (x y : TabD) : (compA x y).length = x.1.length + y.1.length := by simp [compA]
theorem compA_left (x y : TabD) {i : Nat} (h : i ≤ x.1.length) : (compA x y).take i = (x.1.map fun r => r ++ List.replicate y.2.length 0).take i := by
  unfold compA; rw [List.take_append_of_le_length (by simpa using h)]
theorem compA_get_left (x y : TabD) {i : Nat} (h : i < x.1.length) (h' : i < (compA x y).length) : (compA x y)[i] = x.1[i] ++ List.replicate y.2.length 0 := by
  unfold compA at h' ⊢
  rw [List.getElem_append_left (by simpa using h)]
  simp
theorem compA_get_right (x y : TabD) {i : Nat} (h : i < y.1.length) (h' : x.1.length + i < (compA x y).length) : (compA x y)[x.1.length + i] = x.2 ++ y.1[i] := by
  unfold compA at h' ⊢
  rw [List.getElem_append_right (by simp)]
  simp
theorem composeTableaus_len (x y : TabD) : tabCnt (composeTableaus x y).1 ≤ 1000000 := by
  unfold composeTableaus
  split
  · rename_i h
    have hx := isTab_iff h.1
    have hy := isTab_iff h.2
    split
    · decide
    · rename_i h8
      have h1 := hx.sq
      have h2 := hy.sq
      have h3 : cntSS (compA x y) ≤ 8 * (compA x y).length := cntSS_le fun r hr => by
        unfold compA at hr
        rcases List.mem_append.1 hr with hr | hr
        · obtain ⟨r', hr', rfl⟩ := List.mem_map.1 hr
          have := (hx.row r' hr').1
          simp
          omega
        · obtain ⟨r', hr', rfl⟩ := List.mem_map.1 hr
          have := (hy.row r' hr').1
          simp
          omega
      have h4 := compA_length x y
      have h5 : (x.2 ++ y.2).length = x.2.length + y.2.length := List.length_append
      show cntSS (compA x y) + (x.2 ++ y.2).length ≤ 1000000
      omega
  · decide
end Go.Rk
