/- Plain facts: the generator of drawn inputs. Wherever it stands, soon two of its numbers that stand two steps apart are both no multiples of 3. -/
import Derived.Test.YthepgmajeljdhaaGreatDoorBase
namespace Go.Rk
def iterN (f : Nat → Nat) : Nat → Nat → Nat
  | 0, g => g
  | n + 1, g => iterN f n (f g)
theorem iterN_add (f : Nat → Nat) : ∀ (m n g : Nat), iterN f (m + n) g = iterN f n (iterN f m g)
  | 0, n, g => by rw [Nat.zero_add]; rfl
  | m + 1, n, g => by rw [show m + 1 + n = (m + n) + 1 by omega, iterN, iterN, iterN_add f m n]
theorem iterN_zero (f : Nat → Nat) (g : Nat) : iterN f 0 g = g := rfl
theorem iterN_one (f : Nat → Nat) (g : Nat) : iterN f 1 g = f g := rfl
theorem iterN_two (f : Nat → Nat) (g : Nat) : iterN f 2 g = f (f g) := rfl
/-- One step, of the bits that count. -/
def lcgG (g : Nat) : Nat := (g * 6364136223846793005 + 1442695040888963407) % 144115188075855872
theorem lcgG_eq (g : Nat) : lcgG g = (g * 6364136223846793005 + 1442695040888963407) % 144115188075855872 := by unfold lcgG; rfl
attribute [irreducible] lcgG
def runG (n g : Nat) : Nat := iterN lcgG n g
theorem runG_zero (g : Nat) : runG 0 g = g := by unfold runG; exact iterN_zero _ _
theorem runG_one (g : Nat) : runG 1 g = lcgG g := by unfold runG; exact iterN_one _ _
theorem runG_add (m n g : Nat) : runG (m + n) g = runG n (runG m g) := by unfold runG; exact iterN_add _ _ _ _
attribute [irreducible] runG
/-- The number drawn, less whole threes. -/
def thr (g : Nat) : Nat := g % 144115188075855872 / 8589934592 % 3
def affG : Nat → Nat × Nat
  | 0 => (6364136223846793005, 1442695040888963407)
  | j + 1 => ((affG j).1 * (affG j).1 % 144115188075855872, ((affG j).1 * (affG j).2 + (affG j).2) % 144115188075855872)
theorem mulmod (a b g m : Nat) : (a * (g % m) + b) % m = (a * g + b) % m := by
  rw [Nat.add_mod, Nat.mul_mod, Nat.mod_mod, ← Nat.mul_mod, ← Nat.add_mod]
theorem aff_comp (a b g m : Nat) : (a * ((a * g + b) % m) + b) % m = (a * a % m * g + (a * b + b) % m) % m := by
  have h1 : (a * ((a * g + b) % m) + b) % m = (a * (a * g + b) + b) % m := by
    rw [Nat.add_mod, Nat.mul_mod, Nat.mod_mod, ← Nat.mul_mod, ← Nat.add_mod]
  have h2 : (a * a % m * g + (a * b + b) % m) % m = (a * a * g + (a * b + b)) % m := by
    rw [Nat.add_mod, Nat.mul_mod, Nat.mod_mod, Nat.mod_mod, ← Nat.mul_mod, ← Nat.add_mod]
  rw [h1, h2]
  congr 1
  rw [Nat.mul_add, Nat.mul_assoc]
  omega
theorem run_aff : ∀ (j g : Nat), runG (2 ^ j) g % 144115188075855872 = ((affG j).1 * g + (affG j).2) % 144115188075855872
  | 0, g => by
    rw [show (2 : Nat) ^ 0 = 1 from rfl, runG_one, lcgG_eq, affG, Nat.mod_mod, Nat.mul_comm g]
  | j + 1, g => by
    have e : 2 ^ (j + 1) = 2 ^ j + 2 ^ j := by rw [Nat.pow_succ]; omega
    rw [e, runG_add, run_aff j, affG]
    obtain ⟨a, ha⟩ : ∃ a, (affG j).1 = a := ⟨_, rfl⟩
    obtain ⟨b, hb⟩ : ∃ b, (affG j).2 = b := ⟨_, rfl⟩
    have ih := run_aff j g
    rw [ha, hb] at ih ⊢
    have h3 : (a * runG (2 ^ j) g + b) % 144115188075855872 = (a * ((a * g + b) % 144115188075855872) + b) % 144115188075855872 := by
      rw [← ih, mulmod]
    rw [h3, aff_comp]
theorem aff28 : affG 28 = (20113599208882177, 55579970528870400) := by decide +kernel
/-- By how much a stride of 2^28 steps carries, in units of 2^28. -/
def dlt (g : Nat) : Nat := (74928996 * g + 207051525) % 536870912
theorem stride (g : Nat) : runG 268435456 g % 144115188075855872 = (g + 268435456 * dlt g) % 144115188075855872 := by
  have h := run_aff 28 g
  rw [aff28] at h
  rw [show (268435456 : Nat) = 2 ^ 28 from by decide, h]
  unfold dlt
  show (20113599208882177 * g + 55579970528870400) % 144115188075855872 = _
  have e : 2 ^ 28 * ((74928996 * g + 207051525) % 536870912) % 144115188075855872 = 2 ^ 28 * (74928996 * g + 207051525) % 144115188075855872 := by omega
  omega
theorem dlt_step (g : Nat) : dlt (lcgG g) = 6364136223846793005 * dlt g % 536870912 := by
  rw [lcgG_eq]
  unfold dlt
  omega
theorem dlt_mod {g g' : Nat} (h : g % 144115188075855872 = g' % 144115188075855872) : dlt g = dlt g' := by
  unfold dlt; omega
theorem dlt_aff : ∀ (j g : Nat), dlt (runG (2 ^ j) g) = (affG j).1 * dlt g % 536870912
  | 0, g => by rw [show (2 : Nat) ^ 0 = 1 from rfl, runG_one, affG]; exact dlt_step g
  | j + 1, g => by
    have e : 2 ^ (j + 1) = 2 ^ j + 2 ^ j := by rw [Nat.pow_succ]; omega
    rw [e, runG_add, dlt_aff j, dlt_aff j, affG]
    obtain ⟨a, ha⟩ : ∃ a, (affG j).1 = a := ⟨_, rfl⟩
    rw [ha]
    show a * (a * dlt g % 536870912) % 536870912 = a * a % 144115188075855872 * dlt g % 536870912
    have h1 : a * (a * dlt g % 536870912) % 536870912 = a * (a * dlt g) % 536870912 := by rw [Nat.mul_mod, Nat.mod_mod, ← Nat.mul_mod]
    have h2 : a * a % 144115188075855872 * dlt g % 536870912 = a * a * dlt g % 536870912 := by
      rw [Nat.mul_mod, Nat.mod_mod_of_dvd _ (by decide : 536870912 ∣ 144115188075855872), ← Nat.mul_mod]
    rw [h1, h2, Nat.mul_assoc]
theorem dlt_stride (g : Nat) : ∀ i : Nat, dlt (runG (i * 268435456) g) = dlt g ∧ runG (i * 268435456) g % 144115188075855872 = (g + i * 268435456 * dlt g) % 144115188075855872
  | 0 => by rw [Nat.zero_mul, runG_zero, Nat.zero_mul, Nat.add_zero]; exact ⟨rfl, rfl⟩
  | i + 1 => by
    obtain ⟨h1, h2⟩ := dlt_stride g i
    have e : (i + 1) * 268435456 = i * 268435456 + 268435456 := by omega
    rw [e, runG_add]
    obtain ⟨g', hg'⟩ : ∃ g', runG (i * 268435456) g = g' := ⟨_, rfl⟩
    rw [hg'] at h1 h2 ⊢
    have hs := stride g'
    constructor
    · have : dlt (runG 268435456 g') = dlt (g' + 268435456 * dlt g') := dlt_mod hs
      rw [this, ← h1]
      unfold dlt
      omega
    · rw [hs, h1, Nat.add_mul]
      obtain ⟨x, hx⟩ : ∃ x, i * 268435456 * dlt g = x := ⟨_, rfl⟩
      obtain ⟨y, hy⟩ : ∃ y, 268435456 * dlt g = y := ⟨_, rfl⟩
      rw [hx] at h2 ⊢
      rw [hy]
      omega
theorem lift2 {q z t a : Nat} (_hq : 0 < q) (hz : z % q = t % q) (odd : z % 2 = 1) (ha : a % (q * 2) = 1 + q) (hne : z % (q * 2) ≠ t % (q * 2)) : (a * z) % (q * 2) = t % (q * 2) := by
  have e1 : (a * z) % (q * 2) = (z + q) % (q * 2) := by
    rw [Nat.mul_mod, ha, ← Nat.mod_mod z (q * 2)]
    rw [Nat.mod_mod, Nat.mul_mod_mod, Nat.add_mul, Nat.one_mul]
    obtain ⟨y, hy⟩ : ∃ y, z = 2 * y + 1 := ⟨z / 2, by omega⟩
    have : q * z = q * 2 * y + q := by rw [hy, Nat.mul_add, Nat.mul_one, Nat.mul_assoc]
    rw [this, show z + (q * 2 * y + q) = (z + q) + q * 2 * y by omega, Nat.add_mul_mod_self_left]
  rw [e1, Nat.mod_mul, Nat.mod_mul, Nat.add_mod_right, hz]
  rw [Nat.mod_mul, Nat.mod_mul, hz] at hne
  have h1 : (z + q) / q = z / q + 1 := Nat.add_div_right z _hq
  rw [h1]
  have h2 : z / q % 2 ≠ t / q % 2 := fun h => hne (by rw [h])
  have h3 : (z / q + 1) % 2 = t / q % 2 := by omega
  rw [h3]
theorem aff_bits : ∀ j, j < 26 → (affG (j + 1)).1 % (2 ^ (j + 3) * 2) = 1 + 2 ^ (j + 3) := by decide +kernel
theorem reach {t g : Nat} (hg : dlt g % 8 = t % 8) (ht : t % 2 = 1) : ∀ j, j ≤ 26 → ∃ n, n % 2 = 0 ∧ n < 2 ^ (j + 1) ∧ dlt (runG n g) % 2 ^ (j + 3) = t % 2 ^ (j + 3)
  | 0, _ => ⟨0, rfl, by decide, by rw [runG_zero]; exact hg⟩
  | j + 1, hj => by
    obtain ⟨n, h2, hlt, he⟩ := reach hg ht j (by omega)
    have hp : 2 ^ (j + 1 + 1) = 2 ^ (j + 1) + 2 ^ (j + 1) := by rw [Nat.pow_succ]; omega
    by_cases hd : dlt (runG n g) % 2 ^ (j + 1 + 3) = t % 2 ^ (j + 1 + 3)
    · exact ⟨n, h2, by omega, hd⟩
    · refine ⟨n + 2 ^ (j + 1), ?_, by omega, ?_⟩
      · have : 2 ^ (j + 1) % 2 = 0 := by rw [Nat.pow_succ]; omega
        omega
      · rw [runG_add, dlt_aff]
        obtain ⟨z, hz⟩ : ∃ z, dlt (runG n g) = z := ⟨_, rfl⟩
        rw [hz] at he hd ⊢
        have e4 : 2 ^ (j + 1 + 3) = 2 ^ (j + 3) * 2 := by rw [show j + 1 + 3 = j + 3 + 1 by omega, Nat.pow_succ]
        have hodd : z % 2 = 1 := by
          have h1 : z % 2 ^ (j + 3) % 2 = t % 2 ^ (j + 3) % 2 := by rw [he]
          rw [Nat.mod_mod_of_dvd _ ⟨2 ^ (j + 2), by rw [show j + 3 = j + 2 + 1 by omega, Nat.pow_succ]; omega⟩, Nat.mod_mod_of_dvd _ ⟨2 ^ (j + 2), by rw [show j + 3 = j + 2 + 1 by omega, Nat.pow_succ]; omega⟩] at h1
          omega
        rw [e4] at hd ⊢
        have key := lift2 (Nat.pow_pos (by decide)) he hodd (aff_bits j (by omega)) hd
        rw [← key]
        exact Nat.mod_mod_of_dvd _ (by
          have : (536870912 : Nat) = 2 ^ 29 := by decide
          rw [this, ← Nat.pow_succ]
          exact Nat.pow_dvd_pow 2 (by omega))
/-- Two places that lie a third to two thirds of a round apart are not both multiples of 3. -/
theorem apart3 {p d : Nat} (h1 : 8589934592 ≤ d % 25769803776) (h2 : d % 25769803776 ≤ 17179869184) : ¬ (p / 8589934592 % 3 = 0 ∧ (p + d) / 8589934592 % 3 = 0) := by omega
def NiceD (d : Nat) : Prop := 8589934592 ≤ d % 25769803776 ∧ d % 25769803776 ≤ 17179869184 ∧ 8589934592 ≤ (4 * d) % 25769803776 ∧ (4 * d) % 25769803776 ≤ 17179869184
def zer (p : Nat) : Nat := if p / 8589934592 % 3 = 0 then 1 else 0
theorem zer_apart {p d : Nat} (h1 : 8589934592 ≤ d % 25769803776) (h2 : d % 25769803776 ≤ 17179869184) : zer p + zer (p + d) ≤ 1 := by
  have := apart3 (p := p) h1 h2
  unfold zer
  split
  · rename_i e1
    rw [if_neg (fun e2 => this ⟨e1, e2⟩)]
    omega
  · split <;> omega
theorem zer_not {p : Nat} (h : zer p = 0) : p / 8589934592 % 3 ≠ 0 := by
  intro e
  unfold zer at h
  rw [if_pos e] at h
  cases h
theorem five (z0 z1 z2 z3 z4 y0 y1 y2 y3 y4 : Nat) (a1 : z0 + z1 ≤ 1) (a2 : z1 + z2 ≤ 1) (a3 : z2 + z3 ≤ 1) (a4 : z3 + z4 ≤ 1) (a5 : z0 + z4 ≤ 1) (b1 : y0 + y1 ≤ 1) (b2 : y1 + y2 ≤ 1) (b3 : y2 + y3 ≤ 1) (b4 : y3 + y4 ≤ 1) (b5 : y0 + y4 ≤ 1) :
    (z0 = 0 ∧ y0 = 0) ∨ (z1 = 0 ∧ y1 = 0) ∨ (z2 = 0 ∧ y2 = 0) ∨ (z3 = 0 ∧ y3 = 0) ∨ (z4 = 0 ∧ y4 = 0) := by omega
theorem win5 {p q d e : Nat} (hd : NiceD d) (he : NiceD e) : ∃ i, i < 5 ∧ (p + i * d) / 8589934592 % 3 ≠ 0 ∧ (q + i * e) / 8589934592 % 3 ≠ 0 := by
  obtain ⟨d1, d2, d3, d4⟩ := hd
  obtain ⟨e1, e2, e3, e4⟩ := he
  have c (p d : Nat) (i j : Nat) (hj : j = i + 1) (h1 : 8589934592 ≤ d % 25769803776) (h2 : d % 25769803776 ≤ 17179869184) : zer (p + i * d) + zer (p + j * d) ≤ 1 := by
    have := zer_apart (p := p + i * d) h1 h2
    subst hj
    rw [show p + (i + 1) * d = p + i * d + d by rw [Nat.add_mul]; omega]
    exact this
  have c4 (p d : Nat) (h1 : 8589934592 ≤ (4 * d) % 25769803776) (h2 : (4 * d) % 25769803776 ≤ 17179869184) : zer (p + 0 * d) + zer (p + 4 * d) ≤ 1 := by
    have := zer_apart (p := p) h1 h2
    rw [Nat.zero_mul, Nat.add_zero]
    exact this
  have h := five _ _ _ _ _ _ _ _ _ _ (c p d 0 1 rfl d1 d2) (c p d 1 2 rfl d1 d2) (c p d 2 3 rfl d1 d2) (c p d 3 4 rfl d1 d2) (c4 p d d3 d4) (c q e 0 1 rfl e1 e2) (c q e 1 2 rfl e1 e2) (c q e 2 3 rfl e1 e2) (c q e 3 4 rfl e1 e2) (c4 q e e3 e4)
  rcases h with ⟨h1, h2⟩ | ⟨h1, h2⟩ | ⟨h1, h2⟩ | ⟨h1, h2⟩ | ⟨h1, h2⟩
  · exact ⟨0, by omega, zer_not h1, zer_not h2⟩
  · exact ⟨1, by omega, zer_not h1, zer_not h2⟩
  · exact ⟨2, by omega, zer_not h1, zer_not h2⟩
  · exact ⟨3, by omega, zer_not h1, zer_not h2⟩
  · exact ⟨4, by omega, zer_not h1, zer_not h2⟩
/-- The j-th window of five strides does not come round. -/
def Flat (g d j : Nat) : Prop := (g + 5 * j * d) % 144115188075855872 + 4 * d < 144115188075855872
theorem flat_at {g d j i : Nat} (h : Flat g d j) (hi : i < 5) : (g + (5 * j + i) * d) % 144115188075855872 = (g + 5 * j * d) % 144115188075855872 + i * d := by
  unfold Flat at h
  have h1 : i * d ≤ 4 * d := Nat.mul_le_mul_right _ (by omega)
  rw [Nat.add_mul]
  obtain ⟨y, hy⟩ : ∃ y, i * d = y := ⟨_, rfl⟩
  obtain ⟨x, hx⟩ : ∃ x, 5 * j * d = x := ⟨_, rfl⟩
  rw [hy] at h1 ⊢
  rw [hx] at h ⊢
  omega
theorem add_mod_if (g k : Nat) (hk : k < 144115188075855872) : (g + k) % 144115188075855872 = if g % 144115188075855872 + k < 144115188075855872 then g % 144115188075855872 + k else g % 144115188075855872 + k - 144115188075855872 := by
  have hg := Nat.mod_lt g (show 0 < 144115188075855872 by decide)
  rw [Nat.add_mod, Nat.mod_eq_of_lt hk]
  split
  · rename_i h; exact Nat.mod_eq_of_lt h
  · rename_i h
    rw [Nat.mod_eq_sub_mod (by omega), Nat.mod_eq_of_lt (by omega)]
theorem flat_two {g d : Nat} (hd : 20 * d < 144115188075855872) : (Flat g d 0 ∧ Flat g d 1) ∨ (Flat g d 0 ∧ Flat g d 2) ∨ (Flat g d 1 ∧ Flat g d 2) := by
  unfold Flat
  have hg := Nat.mod_lt g (show 0 < 144115188075855872 by decide)
  rw [show 5 * 0 * d = 0 by omega, show 5 * 1 * d = 5 * d by omega, show 5 * 2 * d = 10 * d by omega, add_mod_if g 0 (by omega), add_mod_if g (5 * d) (by omega), add_mod_if g (10 * d) (by omega)]
  obtain ⟨p, hp⟩ : ∃ p, g % 144115188075855872 = p := ⟨_, rfl⟩
  rw [hp] at hg ⊢
  rw [if_pos (show p + 0 < 144115188075855872 by omega)]
  split <;> split <;> omega
theorem both {g g' d e : Nat} (hd : 20 * d < 144115188075855872) (he : 20 * e < 144115188075855872) (nd : NiceD d) (ne : NiceD e) :
    ∃ i, i < 15 ∧ (g + i * d) % 144115188075855872 / 8589934592 % 3 ≠ 0 ∧ (g' + i * e) % 144115188075855872 / 8589934592 % 3 ≠ 0 := by
  have key : ∃ j, j < 3 ∧ Flat g d j ∧ Flat g' e j := by
    rcases flat_two (g := g) hd with ⟨h1, h2⟩ | ⟨h1, h2⟩ | ⟨h1, h2⟩ <;> rcases flat_two (g := g') he with ⟨h3, h4⟩ | ⟨h3, h4⟩ | ⟨h3, h4⟩
    · exact ⟨0, by omega, h1, h3⟩
    · exact ⟨0, by omega, h1, h3⟩
    · exact ⟨1, by omega, h2, h3⟩
    · exact ⟨0, by omega, h1, h3⟩
    · exact ⟨0, by omega, h1, h3⟩
    · exact ⟨2, by omega, h2, h4⟩
    · exact ⟨1, by omega, h1, h4⟩
    · exact ⟨2, by omega, h2, h4⟩
    · exact ⟨1, by omega, h1, h3⟩
  obtain ⟨j, hj, f1, f2⟩ := key
  obtain ⟨i, hi, w1, w2⟩ := win5 (p := (g + 5 * j * d) % 144115188075855872) (q := (g' + 5 * j * e) % 144115188075855872) nd ne
  exact ⟨5 * j + i, by omega, by rw [flat_at f1 hi]; exact w1, by rw [flat_at f2 hi]; exact w2⟩
theorem thr_of {g x : Nat} (h : g % 144115188075855872 = x % 144115188075855872) (hx : x % 144115188075855872 / 8589934592 % 3 ≠ 0) : thr g ≠ 0 := by
  unfold thr; rw [h]; exact hx
theorem soon_at {g : Nat} (d e : Nat) (hd : dlt g = d) (he : (affG 1).1 * d % 536870912 = e) (d1 : 20 * (268435456 * d) < 144115188075855872) (e1 : 20 * (268435456 * e) < 144115188075855872) (nd : NiceD (268435456 * d)) (ne : NiceD (268435456 * e)) :
    ∃ n, n % 2 = 0 ∧ n ≤ 3758096384 ∧ thr (runG n g) ≠ 0 ∧ thr (runG (n + 2) g) ≠ 0 := by
  obtain ⟨i, hi, h1, h2⟩ := both (g := g) (g' := runG 2 g) d1 e1 nd ne
  refine ⟨i * 268435456, by omega, by omega, ?_, ?_⟩
  · have := (dlt_stride g i).2
    rw [hd, Nat.mul_assoc] at this
    exact thr_of this h1
  · rw [Nat.add_comm, runG_add]
    have h3 := (dlt_stride (runG 2 g) i).2
    have h4 := dlt_aff 1 g
    rw [hd, he] at h4
    rw [show (2 : Nat) ^ 1 = 2 from rfl] at h4
    rw [h4, Nat.mul_assoc] at h3
    exact thr_of h3 h2
theorem four_cases (y : Nat) : (4 * y + 207051525) % 8 = 1 ∨ (4 * y + 207051525) % 8 = 5 := by
  obtain ⟨z, hz⟩ : ∃ z, y = 2 * z ∨ y = 2 * z + 1 := ⟨y / 2, by omega⟩
  rcases hz with rfl | rfl
  · right
    rw [show 4 * (2 * z) + 207051525 = 8 * z + 207051525 by rw [← Nat.mul_assoc], Nat.mul_add_mod]
  · left
    rw [Nat.mul_add, ← Nat.mul_assoc, Nat.add_assoc, Nat.mul_add_mod]
theorem dlt_cases (g : Nat) : dlt g % 8 = 1 ∨ dlt g % 8 = 5 := by
  have h : dlt g % 8 = (74928996 * g + 207051525) % 8 := by
    unfold dlt
    exact Nat.mod_mod_of_dvd _ (by decide)
  have h2 := four_cases (18732249 * g)
  rw [← Nat.mul_assoc] at h2
  rw [h]
  exact h2
theorem soon_one {g : Nat} (h : dlt g = 8793) : ∃ n, n % 2 = 0 ∧ n ≤ 3758096384 ∧ thr (runG n g) ≠ 0 ∧ thr (runG (n + 2) g) ≠ 0 :=
  soon_at 8793 813057 h (by decide +kernel) (by omega) (by omega) (by unfold NiceD; omega) (by unfold NiceD; omega)
theorem soon_five {g : Nat} (h : dlt g = 674845) : ∃ n, n % 2 = 0 ∧ n ≤ 3758096384 ∧ thr (runG n g) ≠ 0 ∧ thr (runG (n + 2) g) ≠ 0 :=
  soon_at 674845 122725 h (by decide +kernel) (by omega) (by omega) (by unfold NiceD; omega) (by unfold NiceD; omega)
theorem dlt_small (n : Nat) : dlt n < 536870912 := Nat.mod_lt _ (by decide)
theorem hit {t g : Nat} (hg : dlt g % 8 = t % 8) (ht : t % 2 = 1) (hs : t < 536870912) : ∃ n, n % 2 = 0 ∧ n < 134217728 ∧ dlt (runG n g) = t := by
  obtain ⟨n, h2, hn, h⟩ := reach hg ht 26 (Nat.le_refl _)
  have h3 := dlt_small (runG n g)
  rw [show (2 : Nat) ^ (26 + 3) = 536870912 from by decide] at h
  rw [show (2 : Nat) ^ (26 + 1) = 134217728 from by decide] at hn
  exact ⟨n, h2, hn, by rw [Nat.mod_eq_of_lt h3, Nat.mod_eq_of_lt hs] at h; exact h⟩
/-- Wherever the generator stands: within 4000000000 steps, an even number of steps on and two steps further, two numbers that are no multiples of 3. -/
theorem soon (g : Nat) : ∃ n, n % 2 = 0 ∧ n ≤ 4000000000 ∧ thr (runG n g) ≠ 0 ∧ thr (runG (n + 2) g) ≠ 0 := by
  have fin (n : Nat) (h2 : n % 2 = 0) (hn : n < 134217728) (h : ∃ m, m % 2 = 0 ∧ m ≤ 3758096384 ∧ thr (runG m (runG n g)) ≠ 0 ∧ thr (runG (m + 2) (runG n g)) ≠ 0) : ∃ n, n % 2 = 0 ∧ n ≤ 4000000000 ∧ thr (runG n g) ≠ 0 ∧ thr (runG (n + 2) g) ≠ 0 := by
    obtain ⟨m, a1, a2, a3, a4⟩ := h
    exact ⟨n + m, by omega, by omega, by rw [runG_add]; exact a3, by rw [Nat.add_assoc, runG_add]; exact a4⟩
  rcases dlt_cases g with h8 | h8
  · obtain ⟨n, h2, hn, ht⟩ := hit (t := 8793) h8 (by decide) (by decide)
    exact fin n h2 hn (soon_one ht)
  · obtain ⟨n, h2, hn, ht⟩ := hit (t := 674845) h8 (by decide) (by decide)
    exact fin n h2 hn (soon_five ht)
attribute [irreducible] thr dlt
end Go.Rk
