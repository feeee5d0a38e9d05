/- The reference's conditions: the difference of the two sides; the order of a kind. -/
import Derived.Test.YthepgmajeljdhaaDoorA18
namespace Go.Proofs
open Go Go.Fw Go.RowKit Go.Rk

theorem times_ones {x : TabD} (hx : Tab x) : (x.1.map fun r => dotL r (List.replicate x.2.length 1)) = nodesL x.1 := by
  unfold nodesL
  exact List.map_congr_left fun r hr => dotL_ones (hx.row r hr).1
theorem termsC_len {x : TabD} (hx : Tab x) (kind : Int) (k : Nat) {i : Nat} (hi : i < x.1.length) : (termsC x kind k i).length = x.2.length := by
  have h1 := (hx.row _ (List.getElem_mem hi)).1
  have h2 := hx.sq
  have h3 := nodesL_length x.1
  have h4 := powsL_length (nodesL x.1) (k - 1)
  have h5 := mulsL_length x.2 (powsL (nodesL x.1) (k - 1))
  have h6 := colL_length x.1 i
  unfold termsC
  rw [List.getElem?_eq_getElem hi, Option.getD_some]
  split
  · rw [List.length_zipWith]; omega
  split
  · rw [List.length_zipWith]; omega
  · rw [List.length_zipWith]; omega
theorem l01_step (a b : Int) : nm (nm a + nm b) = nm (a + b) := by rw [nm_add_nm, nm_nm_add]
end Go.Proofs
