/- From a row's own reading of an argument to the readings that the walks lean on. -/
import Derived.Test.YthepgmajeljdhaaGreatDoorHB
import Derived.WalkKit
import Derived.ProofKit
import Derived.OpenShut
import Derived.ShutString
import Derived.ChangeOld
import Derived.Below
namespace Go.Fw
open Go Go.RowKit
open Go.ChangeShapes Go.WideShapes Go.ChangeAt

theorem addr_of_cell {w : World} {x : Addr} {v : Value} (h : w.cell? x = some v) : x = ⟨x.block, x.off, none⟩ ∧ x.block < w.heap.size := by
  have hlt := World.block_lt_of_cell? w x h
  refine ⟨?_, hlt⟩
  obtain ⟨b, o, sp⟩ := x
  cases sp with
  | none => rfl
  | some s =>
    unfold World.cell? at h
    split at h
    · simp at h
    · cases h

theorem add_lit (b o i : Nat) : (⟨b, o, none⟩ : Addr).add i = ⟨b, o + i, none⟩ := by unfold Addr.add; split <;> simp_all

/-- What the row's opening of a slice of integers gives. -/
def IsRow (w : World) (a : Option Addr) (len cap : Nat) (zs : List Int) : Prop :=
  (a = none ∧ len = 0 ∧ cap = 0 ∧ zs = []) ∨
  ∃ x, a = some x ∧ len ≤ cap ∧ cap ≤ maxLen ∧ zs.length = cap ∧ (∀ i, i < zs.length → w.cell? (x.add i) = some (.int .i64 (zs.getD i 0))) ∧ ∀ n ∈ zs, (Lit.int .i64 n).wf = true

theorem IsRow.is {w : World} {a : Option Addr} {len cap : Nat} {zs : List Int} (h : IsRow w a len cap zs) : IS 0 w.heap.size w (.slice a len cap) (zs.take len) := by
  rcases h with ⟨rfl, rfl, rfl, rfl⟩ | ⟨x, rfl, hl, hm, hz, hc, _⟩
  · exact ⟨Nat.le_refl _, none, 0, rfl, Nat.zero_le _, ⟨Nat.le_refl _, fun _ => rfl⟩, fun i x h => by simp at h⟩
  · have hlen : (zs.take len).length = len := by rw [List.length_take]; omega
    refine ⟨Nat.le_refl _, some x, cap, by rw [hlen], by omega, ⟨by omega, fun h => by cases h⟩, fun i y hy => ?_⟩
    have hi : i < len := by have := (List.getElem?_eq_some_iff.1 hy).1; omega
    have hi2 : i < zs.length := by omega
    have h0 := hc 0 (by omega)
    rw [show x.add 0 = x from by simp [Addr.add]] at h0
    obtain ⟨hx, hb⟩ := addr_of_cell h0
    have hci := hc i hi2
    rw [hx, add_lit] at hci
    refine ⟨x.block, x.off, _, by rw [← hx], Nat.zero_le _, hb, hci, ?_⟩
    rw [List.getElem?_take, if_pos hi] at hy
    simp [RI, List.getD, hy]

theorem IsRow.wf {w : World} {a : Option Addr} {len cap : Nat} {zs : List Int} (h : IsRow w a len cap zs) : ∀ n ∈ zs.take len, InI n := by
  rcases h with ⟨rfl, rfl, rfl, rfl⟩ | ⟨x, rfl, hl, hm, hz, hc, hw⟩
  · intro n hn; simp at hn
  · intro n hn
    have := hw n (List.mem_of_mem_take hn)
    simp [Lit.wf, IntKind.min, IntKind.max, IntKind.signed, IntKind.bits] at this
    unfold InI
    omega
end Go.Fw
namespace Go.Proofs
theorem own : ownKnob Tryz.prog.godebug = none := by kernel_rfl
theorem laidOut : laidOutB Tryz.prog = true := by kernel_rfl
end Go.Proofs
