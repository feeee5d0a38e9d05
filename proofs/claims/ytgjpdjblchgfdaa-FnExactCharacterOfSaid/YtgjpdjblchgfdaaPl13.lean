/- Plain facts: densities, what a tree lacks, the character and the order of a tableau. -/
import Derived.Test.YtgjpdjblchgfdaaPl12
namespace Go.Rk
open Go.Fw Go.Proofs
/-- Products, as the machine takes them. -/
def densGo (g : List Int → Int) : Int → List (List Int) → Int
  | out, [] => out
  | out, b :: bs => densGo g (IntKind.i64.wrap (out * g b)) bs
theorem densGo_drop {g : List Int → Int} {bs : List (List Int)} {i : Nat} (h : i < bs.length) (out : Int) : densGo g out (bs.drop i) = densGo g (IntKind.i64.wrap (out * g bs[i])) (bs.drop (i + 1)) := by
  rw [List.drop_eq_getElem_cons h, densGo]
def densL : Nat → List Int → Int
  | 0, _ => 0
  | f + 1, t => densGo (densL f) t.length (branchesL t)
def lackL (x : TabD) (t : List Int) : Int := nm (weightL x t - powN (nm (densL 8 t)) 10005)
def characterL (x : TabD) : List Int := 1 :: (treesTo 6).map (weightL x)
def orderGo (x : TabD) : List (List Int) → Int
  | [] => 6
  | t :: ts => if lackL x t ≠ 0 then (t.length : Int) - 1 else orderGo x ts
def orderL (x : TabD) : Int := orderGo x (treesTo 6)
theorem orderGo_drop {x : TabD} {ts : List (List Int)} {i : Nat} (h : i < ts.length) : orderGo x (ts.drop i) = if lackL x ts[i] ≠ 0 then (ts[i].length : Int) - 1 else orderGo x (ts.drop (i + 1)) := by
  rw [List.drop_eq_getElem_cons h, orderGo]
def characterOf (x : TabD) : List Int × Int := if isTab x = true then (characterL x, 0) else ([], 1)
def orderOf (x : TabD) : Int × Int := if isTab x = true then (orderL x, 0) else (0, 1)
theorem treesTo_len : (treesTo 6).length = 37 := by
  have h : decide ((treesTo 6).length = 37) = true := by kernel_rfl
  exact of_decide_eq_true h
theorem characterOf_len (x : TabD) : (characterOf x).1.length ≤ 1000000 := by
  unfold characterOf
  split
  · show (characterL x).length ≤ 1000000
    unfold characterL
    rw [List.length_cons, List.length_map, treesTo_len]
    omega
  · simp
theorem nm_frac (d : Int) : nm (nm 1 * powN (nm d) 10005) = powN (nm d) 10005 := by
  rw [nm_nm_mul, Int.one_mul]
  have := powN_bd (nm d) 10005
  exact nm_of (isN_of this)
end Go.Rk
