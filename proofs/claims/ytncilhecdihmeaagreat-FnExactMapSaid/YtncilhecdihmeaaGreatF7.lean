/- Plain facts: the reference's cuts as lists, and that their table is the same. -/
import Derived.Test.YtncilhecdihmeaaGreatF1
namespace Go.Rk
open Go.Fw Go.Proofs
def putS : List SplD → SplD → List SplD
  | [], c => [c]
  | x :: r, c => if cmpC (c.1, c.2.1) (x.1, x.2.1) < 0 then c :: x :: r else if cmpC (c.1, c.2.1) (x.1, x.2.1) = 0 then (x.1, x.2.1, x.2.2 + c.2.2) :: r else x :: putS r c
def insT (x : List Int) : For → For
  | [] => [x]
  | y :: r => if cmpT x y < 0 then x :: y :: r else y :: insT x r
def sortTS (f : For) : For := f.foldl (fun out x => insT x out) []
def timesF (f g : For) : For := sortTS (f ++ g)
def timesRow (x : SplD) (b : List SplD) (out : List SplD) : List SplD := b.foldl (fun out y => putS out (timesF x.1 y.1, timesF x.2.1 y.2.1, x.2.2 * y.2.2)) out
def timesS (a b : List SplD) : List SplD := a.foldl (fun out x => timesRow x b out) []
def branchesS (t : List Int) : For := sortTS (branchesL (canonL 8 t))
def rootS (s : SplD) : SplD := (s.1, [canonL 8 (rootL s.2.1)], s.2.2)
def treeS : Nat → List Int → List SplD
  | 0, _ => []
  | f + 1, t => ((branchesS t).foldl (fun out b => timesS out (treeS f b)) [([], [], 1)]).foldl (fun out x => putS out (rootS x)) [([t], [], 1)]
def findT (t : List Int) : Nat := if t ∈ treesTo 6 then placeT t else 0
def rowS (s : SplD) : RowD := (s.2.2, s.1.map findT, findT (s.2.1.headD []))
set_option maxRecDepth 100000 in
theorem specLit_eq : ((treesTo 6).map fun t => (treeS 7 t).map rowS) = cutLit := by kernel_rfl
end Go.Rk
