/- The stage weights of a tree, the program's. -/
import Derived.Test.YtncilhecdihmeaaA14
import Derived.Test.YtncilhecdihmeaaA21
import Derived.Test.YtncilhecdihmeaaA26
namespace Go.Fw
open Go Go.RowKit
theorem Chg.ofStore {e : TypeId} {a b lo : Nat} {w w1 : World} {v : Value} {xs : List Int} (h : OwI e a b w v xs) (hbl : Below lo w w1) (hz : w1.heap.size = w.heap.size) (hf : ∀ k, v.ownBlock ≠ some k → w1.heap[k]? = w.heap[k]?) : Chg a b w w1 :=
  ⟨hbl.os, hbl.tape, hbl.output, by omega, fun k _ hd => hf k (fun e => by have := h.lt k e; have := (h.own.block k e).1; omega)⟩
end Go.Fw
namespace Go.Proofs
open Go Go.Fw Go.RowKit Go.Rk
end Go.Proofs
/- The stage weights of a tree, the reference's; weights, codes and the public functions. -/
namespace Go.Proofs
open Go Go.Fw Go.RowKit Go.Rk
end Go.Proofs
