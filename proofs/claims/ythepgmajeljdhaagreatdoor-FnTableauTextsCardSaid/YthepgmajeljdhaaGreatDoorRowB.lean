/- From a row's own reading of a slice of bytes to the reading that the walks lean on. -/
import Derived.Test.YthepgmajeljdhaaGreatDoorRow0
import Derived.Test.YthepgmajeljdhaaGreatDoorD1
namespace Go.Fw
open Go Go.RowKit
open Go.ChangeShapes Go.WideShapes Go.ChangeAt
/-- What the row's opening of a slice of bytes gives. -/
def IsRowU (w : World) (a : Option Addr) (len cap : Nat) (zs : List Int) : Prop :=
  (a = none ∧ len = 0 ∧ cap = 0 ∧ zs = []) ∨
  ∃ x, a = some x ∧ len ≤ cap ∧ cap ≤ maxLen ∧ zs.length = cap ∧ (∀ i, i < zs.length → w.cell? (x.add i) = some (.int .u8 (zs.getD i 0))) ∧ ∀ n ∈ zs, (Lit.int .u8 n).wf = true

theorem IsRowU.is {w : World} {a : Option Addr} {len cap : Nat} {zs : List Int} (h : IsRowU w a len cap zs) : IU 0 w.heap.size w (.slice a len cap) (zs.take len) := by
  rcases h with ⟨rfl, rfl, rfl, rfl⟩ | ⟨x, rfl, hl, hm, hz, hc, hw⟩
  · exact ⟨Nat.le_refl _, none, 0, rfl, Nat.zero_le _, ⟨Nat.le_refl _, fun _ => rfl⟩, fun i x h => by simp at h⟩
  · have hlen : (zs.take len).length = len := by rw [List.length_take]; omega
    refine ⟨Nat.le_refl _, some x, cap, by rw [hlen], by omega, ⟨by omega, fun h => by cases h⟩, fun i y hy => ?_⟩
    have hi : i < len := by have := (List.getElem?_eq_some_iff.1 hy).1; omega
    have hi2 : i < zs.length := by omega
    have h0 := hc 0 (by omega)
    rw [show x.add 0 = x from by simp [Addr.add]] at h0
    obtain ⟨hx, hb⟩ := addr_of_cell h0
    have hci := hc i hi2
    rw [hx, add_lit] at hci
    refine ⟨x.block, x.off, _, by rw [← hx], Nat.zero_le _, hb, hci, ?_⟩
    rw [List.getElem?_take, if_pos hi] at hy
    have hm := hw y (List.mem_of_getElem? hy)
    simp [Lit.wf, IntKind.min, IntKind.max, IntKind.signed, IntKind.bits] at hm
    refine ⟨by simp [List.getD, hy], by omega, by omega⟩
end Go.Fw
