/- Plain facts: the conditions on the quadrature, the stages and the columns. -/
import Derived.Test.YtgjpdjblchgfdaaPl5
import Derived.Test.YtgjpdjblchgfdaaDrawn
namespace Go.Rk
open Go.Fw Go.Proofs

def powsL (cs : List Int) (e : Nat) : List Int := cs.map fun c => powN c e
theorem powsL_length (cs : List Int) (e : Nat) : (powsL cs e).length = cs.length := by simp [powsL]
theorem powsL_get {cs : List Int} {e i : Nat} (h : i < (powsL cs e).length) (h' : i < cs.length) : (powsL cs e)[i] = powN cs[i] e := by simp [powsL]
theorem allN_of {xs : List Int} (h : ∀ x ∈ xs, isN x = true) : allN xs = true := by unfold allN; exact List.all_eq_true.2 h
theorem isN_of {x : Int} (h : 0 ≤ x ∧ x ≤ 10006) : isN x = true := by rw [isN_def]; exact decide_eq_true h
theorem allN_powsL (cs : List Int) (e : Nat) : allN (powsL cs e) = true := allN_of fun x hx => by
  obtain ⟨c, _, rfl⟩ := List.mem_map.1 hx
  exact isN_of (powN_bd _ _)
theorem allN_nodesL (xss : List (List Int)) : allN (nodesL xss) = true := allN_of fun x hx => by
  obtain ⟨c, _, rfl⟩ := List.mem_map.1 hx
  exact nm_isN _
theorem nodesL_length (xss : List (List Int)) : (nodesL xss).length = xss.length := by simp [nodesL]
/-- Products, as numbers. -/
def mulsL (xs ys : List Int) : List Int := List.zipWith (fun x y => nm (x * y)) xs ys
theorem mulsL_length (xs ys : List Int) : (mulsL xs ys).length = min xs.length ys.length := by simp [mulsL]
theorem mulsL_get {xs ys : List Int} {i : Nat} (h : i < (mulsL xs ys).length) (h1 : i < xs.length) (h2 : i < ys.length) : (mulsL xs ys)[i] = nm (xs[i] * ys[i]) := by simp [mulsL]
theorem allN_mulsL (xs ys : List Int) : allN (mulsL xs ys) = true := by
  unfold mulsL
  induction xs generalizing ys with
  | nil => exact allN_nil
  | cons x xs ih =>
    cases ys with
    | nil => exact allN_nil
    | cons y ys => rw [List.zipWith_cons_cons, allN_cons, nm_isN, ih]; rfl
theorem nm_sum_muls (xs ys : List Int) : nm (mulsL xs ys).sum = dotL xs ys := by
  unfold mulsL dotL
  induction xs generalizing ys with
  | nil => rfl
  | cons x xs ih =>
    cases ys with
    | nil => rfl
    | cons y ys => rw [List.zipWith_cons_cons, List.zipWith_cons_cons, List.sum_cons, List.sum_cons, nm_nm_add, ← nm_add_nm, ih, nm_add_nm]
/-- A column. -/
def colL (xss : List (List Int)) (j : Nat) : List Int := xss.map fun r => r[j]?.getD 0
theorem colL_length (xss : List (List Int)) (j : Nat) : (colL xss j).length = xss.length := by simp [colL]
theorem colL_get {xss : List (List Int)} {j i : Nat} (h : i < (colL xss j).length) (h1 : i < xss.length) (h2 : j < xss[i].length) : (colL xss j)[i] = xss[i][j] := by
  simp [colL, List.getElem?_eq_getElem h2]

/-- The terms of a condition's left side. -/
def termsC (x : TabD) (kind : Int) (k i : Nat) : List Int :=
  if kind = 0 then List.zipWith (· * ·) x.2 (powsL (nodesL x.1) (k - 1))
  else if kind = 1 then List.zipWith (· * ·) (x.1[i]?.getD []) (powsL (nodesL x.1) (k - 1))
  else List.zipWith (· * ·) (mulsL x.2 (powsL (nodesL x.1) (k - 1))) (colL x.1 i)
def leftC (x : TabD) (kind : Int) (k i : Nat) : Int := nm (termsC x kind k i).sum
/-- k times the right side. -/
def rightC (x : TabD) (kind : Int) (k i : Nat) : Int :=
  if kind = 0 then 1 else if kind = 1 then powN ((nodesL x.1)[i]?.getD 0) k else nm (x.2[i]?.getD 0 * nm (1 - powN ((nodesL x.1)[i]?.getD 0) k))
def meetC (x : TabD) (kind : Int) (k i : Nat) : Bool := decide (nm (leftC x kind k i * k) = rightC x kind k i)
def meetAll (x : TabD) (kind : Int) (k : Nat) : Bool := (List.range x.2.length).all (meetC x kind k)
theorem rangeAll_false {p : Nat → Bool} {n i : Nat} (hi : i < n) (h : p i = false) : (List.range n).all p = false := by
  rw [List.all_eq_false]
  exact ⟨i, List.mem_range.2 hi, by rw [h]; decide⟩
theorem rangeAll_true {p : Nat → Bool} {n : Nat} (h : ∀ i, i < n → p i = true) : (List.range n).all p = true := List.all_eq_true.2 fun i hi => h i (List.mem_range.1 hi)
theorem rightC_bd (x : TabD) (kind : Int) (k i : Nat) : 0 ≤ rightC x kind k i ∧ rightC x kind k i ≤ 10006 := by
  unfold rightC
  split
  · omega
  split
  · exact powN_bd _ _
  · exact nm_bd _

def powF : Nat → Int → Int → Nat → Int
  | 0, _, acc, _ => acc
  | f + 1, a, acc, e => if e = 0 then acc else powF f (nm (a * a)) (if e % 2 = 1 then nm (acc * a) else acc) (e / 2)
theorem powF_eq (f : Nat) (a acc : Int) (e : Nat) (h : e < 2 ^ f) : powF f a acc e = powGo a acc e := by
  induction f generalizing a acc e with
  | zero =>
    have : e = 0 := by simp at h; omega
    subst this
    rw [powGo_zero]; rfl
  | succ f ih =>
    unfold powF
    split
    · rename_i h0; subst h0; rw [powGo_zero]
    · rename_i h0
      rw [powGo_step a acc h0]
      exact ih _ _ _ (by rw [Nat.pow_succ] at h; omega)
def fracC (k : Int) : Int := nm (nm 1 * powN (nm k) 10005)
theorem frac_tab : ((List.range 16).all fun i => decide (nm (nm 1 * powF 14 (nm ((i + 1 : Nat) : Int)) 1 10005) * ((i + 1 : Nat) : Int) % 10007 = 1)) = true := by kernel_rfl
theorem frac_ok {k : Nat} (h0 : 1 ≤ k) (h1 : k ≤ 16) : fracC k * k % 10007 = 1 := by
  have h := List.all_eq_true.1 frac_tab (k - 1) (List.mem_range.2 (by omega))
  rw [show k - 1 + 1 = k from by omega] at h
  have h2 := of_decide_eq_true h
  rw [powF_eq _ _ _ _ (by decide)] at h2
  exact h2
theorem frac_arith {q k t l r m : Int} (h : q * k = 1 + 10007 * t) (h2 : l - q * r = 10007 * m) : l * k = r + 10007 * (r * t + m * k) := by
  have h3 : l = q * r + 10007 * m := by omega
  rw [h3, Int.add_mul, Int.mul_right_comm, h, Int.add_mul, Int.mul_add, Int.one_mul, Int.mul_assoc, Int.mul_assoc, Int.mul_comm t r]
  omega
theorem frac_arith2 {q k t l r s : Int} (h : q * k = 1 + 10007 * t) (h2 : l * k = r + 10007 * s) : l - q * r = 10007 * (q * s - t * l) := by
  have h3 : l * (q * k) = l + 10007 * (t * l) := by rw [h, Int.mul_add, Int.mul_one, ← Int.mul_assoc, Int.mul_comm l 10007, Int.mul_assoc, Int.mul_comm l t]
  have h4 : l * (q * k) = q * r + 10007 * (q * s) := by
    rw [← Int.mul_assoc, Int.mul_comm l q, Int.mul_assoc, h2, Int.mul_add, ← Int.mul_assoc q 10007, Int.mul_comm q 10007, Int.mul_assoc]
  rw [Int.mul_sub]
  omega
theorem nm_sub_nm' (a b : Int) : nm (a - nm b) = nm (a - b) := by unfold nm; omega
theorem frac_iff {k : Nat} (h0 : 1 ≤ k) (h1 : k ≤ 16) {l r : Int} (hr : 0 ≤ r ∧ r ≤ 10006) : nm (l - nm (fracC k * r)) = 0 ↔ nm (l * k) = r := by
  have hq := frac_ok h0 h1
  have ht : fracC k * k = 1 + 10007 * (fracC k * k / 10007) := by omega
  rw [nm_sub_nm']
  unfold nm
  constructor
  · intro h
    have h2 : l - fracC k * r = 10007 * ((l - fracC k * r) / 10007) := by omega
    have h3 := frac_arith ht h2
    omega
  · intro h
    have h2 : l * k = r + 10007 * (l * k / 10007) := by omega
    have h3 := frac_arith2 ht h2
    omega
/-- The reference's difference of the two sides. -/
def sumC (x : TabD) (kind : Int) (k i : Nat) : Int := nm (leftC x kind k i - nm (fracC k * rightC x kind k i))
theorem sumC_iff {x : TabD} {kind : Int} {k i : Nat} (h0 : 1 ≤ k) (h1 : k ≤ 16) : sumC x kind k i ≠ 0 ↔ meetC x kind k i = false := by
  unfold sumC meetC
  rw [Ne, frac_iff h0 h1 (rightC_bd x kind k i), decide_eq_false_iff_not]
theorem fracC_bd (k : Int) : 0 ≤ fracC k ∧ fracC k ≤ 10006 := nm_bd _
theorem fracC_one (k : Int) : nm (fracC k * 1) = fracC k := by rw [Int.mul_one]; exact nm_nm _

def condGo (p : Nat → Bool) : Nat → Nat → Int
  | k, 0 => (k : Int) - 1
  | k, f + 1 => if p k = true then condGo p (k + 1) f else (k : Int) - 1
def condOrder (x : TabD) (kind : Int) : Int := condGo (meetAll x kind) 1 16
theorem condGo_bd (p : Nat → Bool) (k f : Nat) : (k : Int) - 1 ≤ condGo p k f ∧ condGo p k f ≤ (k : Int) - 1 + f := by
  induction f generalizing k with
  | zero => simp [condGo]
  | succ f ih =>
    unfold condGo
    have := ih (k + 1)
    split <;> omega
theorem condOrder_bd (x : TabD) (kind : Int) : 0 ≤ condOrder x kind ∧ condOrder x kind ≤ 16 := by
  have := condGo_bd (meetAll x kind) 1 16
  unfold condOrder; omega
def condResult (x : TabD) (kind : Int) : Int × Int := if isTab x = true then (condOrder x kind, 0) else (0, 1)
def impliedOrder (x : TabD) : Int × Int := if isTab x = true then (min (min (min 6 (condOrder x 0)) (2 * condOrder x 1 + 2)) (condOrder x 1 + condOrder x 2 + 1), 0) else (0, 1)
def meetsAssumption (x : TabD) (kind n : Int) : Bool × Int :=
  if isTab x = true then (if (0 ≤ kind ∧ kind ≤ 2) ∧ (0 ≤ n ∧ n ≤ 16) then (decide (n ≤ condOrder x kind), 0) else (false, 2)) else (false, 1)
end Go.Rk
