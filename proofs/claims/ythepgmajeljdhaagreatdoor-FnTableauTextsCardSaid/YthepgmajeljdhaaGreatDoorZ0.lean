/- Plain facts: the texts of numbers, rows and tableaus. -/
import Derived.Test.YthepgmajeljdhaaGreatDoorPlA
import Derived.Lib.ItoaLen
import Derived.Lib.Join
namespace Go.Rk
open Go.Fw Go.Proofs
/-- A string. -/
abbrev St (l : List UInt8) : Value := .string ⟨l.toArray⟩
def symm (a q : Int) : Int := if nm (a * q) > 5003 then nm (a * q) - 10007 else nm (a * q)
def fits70 (p q : Int) : Bool := decide (-70 ≤ p ∧ p ≤ 70) && decide (p.natAbs.gcd q.natAbs = 1)
def fracText (p q : Int) : List UInt8 := if q = 1 then Lib.itoa p else Lib.itoa p ++ [47] ++ Lib.itoa q
def numGo (a : Int) : Nat → Int → List UInt8
  | 0, _ => Lib.itoa a
  | f + 1, q => if fits70 (symm a q) q = true then fracText (symm a q) q else numGo a f (q + 1)
def numText (a : Int) : List UInt8 := numGo a 70 1
theorem symm_bd (a q : Int) : -5003 ≤ symm a q ∧ symm a q ≤ 5003 := by unfold symm nm; split <;> omega
theorem symm_nm (a q : Int) : nm (symm a q - a * q) = 0 := by unfold symm nm; split <;> omega
theorem symm_of {a q p : Int} (h : nm (p - a * q) = 0) (h1 : -5003 ≤ p) (h2 : p ≤ 5003) : p = symm a q := by unfold symm; unfold nm at h ⊢; split <;> omega
theorem ok_iff {a q p : Int} (h1 : -70 ≤ p) (h2 : p ≤ 70) : (nm (p - a * q) = 0 ∧ p.natAbs.gcd q.natAbs = 1) ↔ p = symm a q ∧ fits70 (symm a q) q = true := by
  constructor
  · rintro ⟨h, hg⟩
    have e := symm_of h (by omega) (by omega)
    refine ⟨e, ?_⟩
    rw [← e]
    simp [fits70, h1, h2, hg]
  · rintro ⟨rfl, hf⟩
    simp only [fits70, Bool.and_eq_true, decide_eq_true_eq] at hf
    exact ⟨symm_nm a q, hf.2⟩
theorem fits_none {a q : Int} (h : ∀ p : Int, -70 ≤ p → p ≤ 70 → ¬ (nm (p - a * q) = 0 ∧ p.natAbs.gcd q.natAbs = 1)) : fits70 (symm a q) q = false := by
  cases hf : fits70 (symm a q) q with
  | false => rfl
  | true =>
    have h2 := hf
    simp only [fits70, Bool.and_eq_true, decide_eq_true_eq] at h2
    exact absurd ((ok_iff h2.1.1 h2.1.2).2 ⟨rfl, hf⟩) (h _ h2.1.1 h2.1.2)
theorem fracText_length {p q : Int} (h1 : -9223372036854775808 ≤ p) (h2 : p ≤ 9223372036854775807) (h3 : -9223372036854775808 ≤ q) (h4 : q ≤ 9223372036854775807) : (fracText p q).length ≤ 43 := by
  have a1 := Lib.itoa_length_le p h1 h2
  have a2 := Lib.itoa_length_le q h3 h4
  unfold fracText
  split
  · omega
  · simp only [List.length_append, List.length_singleton]; omega
theorem numGo_length {a : Int} (h1 : -9223372036854775808 ≤ a) (h2 : a ≤ 9223372036854775807) : ∀ (f : Nat) (q : Int), 0 ≤ q → q + f ≤ 1000 → (numGo a f q).length ≤ 43
  | 0, q, _, _ => by have := Lib.itoa_length_le a h1 h2; unfold numGo; omega
  | f + 1, q, h, h' => by
    unfold numGo
    split
    · have := symm_bd a q
      exact fracText_length (by omega) (by omega) (by omega) (by omega)
    · exact numGo_length h1 h2 f (q + 1) (by omega) (by omega)
theorem numText_length {a : Int} (h : isN a = true) : (numText a).length ≤ 43 := by
  have := isN_bd h
  exact numGo_length (by omega) (by omega) 70 1 (by omega) (by omega)
def lineL (xs : List Int) : List UInt8 := Lib.join (xs.map numText) [32]
def tabText (x : TabD) : List UInt8 := Lib.join (x.1.map lineL) [59] ++ [124] ++ lineL x.2
theorem join_snoc (xs : List (List UInt8)) (y sep : List UInt8) : Lib.join (xs ++ [y]) sep = if xs = [] then y else Lib.join xs sep ++ sep ++ y := by
  cases xs with
  | nil => simp [Lib.join_one]
  | cons x r =>
    rw [List.cons_append, Lib.join_cons, Lib.join_cons, if_neg (by simp)]
    simp [Lib.joinTail]
theorem join_length {sep : List UInt8} {B : Nat} : ∀ {xs : List (List UInt8)}, (∀ x ∈ xs, x.length ≤ B) → (Lib.join xs sep).length ≤ (B + sep.length) * xs.length := by
  intro xs h
  cases xs with
  | nil => simp [Lib.join_nil]
  | cons x r =>
    rw [Lib.join_cons]
    have hr : ∀ (r : List (List UInt8)), (∀ x ∈ r, x.length ≤ B) → (Lib.joinTail sep r).length ≤ (B + sep.length) * r.length := fun r => by
      induction r with
      | nil => intro _; simp [Lib.joinTail]
      | cons y r ih =>
        intro h
        have h1 := ih fun x hx => h x (by simp [hx])
        have h2 := h y (by simp)
        simp only [Lib.joinTail, List.map_cons, List.flatten_cons, List.length_append, List.length_cons] at h1 ⊢
        rw [Nat.mul_succ]
        omega
    have h1 := hr r fun x hx => h x (by simp [hx])
    have h2 := h x (by simp)
    rw [List.length_append, List.length_cons, Nat.mul_succ]
    omega
theorem lineL_length {xs : List Int} (h : allN xs = true) : (lineL xs).length ≤ 44 * xs.length := by
  have := join_length (sep := [32]) (B := 43) (xs := xs.map numText) fun t ht => by
    obtain ⟨a, ha, rfl⟩ := List.mem_map.1 ht
    exact numText_length (by unfold allN at h; exact List.all_eq_true.1 h a ha)
  simpa [lineL] using this
theorem tabText_length {x : TabD} (hx : Tab x) : (tabText x).length ≤ 10000 := by
  have h8 := hx.le8
  have h1 := join_length (sep := [59]) (B := 352) (xs := x.1.map lineL) fun t ht => by
    obtain ⟨r, hr, rfl⟩ := List.mem_map.1 ht
    have := lineL_length (hx.row r hr).2
    have := (hx.row r hr).1
    omega
  have h2 := lineL_length hx.last
  have h3 := hx.sq
  simp only [List.length_map, List.length_singleton] at h1
  unfold tabText
  simp only [List.length_append, List.length_singleton]
  omega
/-- Two numbers have a divisor of at least 2 just where their greatest one is not 1. -/
theorem gcd_one {p q : Int} (hq : 1 ≤ q) : (∃ e : Int, 2 ≤ e ∧ e ≤ q ∧ e ∣ p ∧ e ∣ q) ↔ p.natAbs.gcd q.natAbs ≠ 1 := by
  constructor
  · rintro ⟨e, h2, _, hp, hq'⟩ h1
    have hd : e.natAbs ∣ p.natAbs.gcd q.natAbs := Nat.dvd_gcd (Int.natAbs_dvd_natAbs.2 hp) (Int.natAbs_dvd_natAbs.2 hq')
    rw [h1] at hd
    have := Nat.le_of_dvd (by omega) hd
    omega
  · intro h
    have hpos : 0 < p.natAbs.gcd q.natAbs := Nat.gcd_pos_of_pos_right _ (by omega)
    have hle : p.natAbs.gcd q.natAbs ≤ q.natAbs := Nat.le_of_dvd (by omega) (Nat.gcd_dvd_right _ _)
    exact ⟨(p.natAbs.gcd q.natAbs : Nat), by omega, by omega, Int.natAbs_dvd_natAbs.1 (by rw [Int.natAbs_natCast]; exact Nat.gcd_dvd_left _ _), Int.natAbs_dvd_natAbs.1 (by rw [Int.natAbs_natCast]; exact Nat.gcd_dvd_right _ _)⟩
theorem tmod_zero {p d : Int} : p.tmod d = 0 ↔ d ∣ p := ⟨Int.dvd_of_tmod_eq_zero, Int.tmod_eq_zero_of_dvd⟩
theorem gcd_step {a b : Int} : b.natAbs.gcd (a.tmod b).natAbs = a.natAbs.gcd b.natAbs := by
  rw [Int.natAbs_tmod, Nat.gcd_comm a.natAbs b.natAbs, Nat.gcd_rec b.natAbs a.natAbs, Nat.gcd_comm]
attribute [irreducible] symm fits70 fracText numText lineL tabText
end Go.Rk
