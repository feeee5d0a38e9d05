/- Plain facts: numbers that are written in decimal. -/
import Derived.Test.YthepgmajeljdhaaGreatDoorZ0
import Derived.Lib.ParseIntBCases
namespace Go.Rk
open Go.Fw Go.Proofs
def isDig (c : UInt8) : Bool := decide (48 ≤ c.toNat ∧ c.toNat ≤ 57)
def digGo : Nat → List UInt8 → Option Nat
  | n, [] => some n
  | n, c :: r => if isDig c = true then digGo (n * 10 + (c.toNat - 48)) r else none
def optI : Option Nat → Int
  | some n => (n : Int)
  | none => -1
/-- The number that is written without leading zeros with at most nine digits, or -1. -/
def valueL (s : List UInt8) : Int := if s.length = 0 ∨ 9 < s.length ∨ (1 < s.length ∧ s[0]? = some 48) then -1 else optI (digGo 0 s)
theorem digGo_snoc (c : UInt8) : ∀ (l : List UInt8) (n : Nat), digGo n (l ++ [c]) = (digGo n l).bind fun m => if isDig c = true then some (m * 10 + (c.toNat - 48)) else none
  | [], n => by simp [digGo]
  | x :: l, n => by
    rw [List.cons_append, digGo, digGo]
    split
    · exact digGo_snoc c l _
    · rfl
theorem ofNat_dig {d : Nat} (h : d < 10) : (UInt8.ofNat (48 + d)).toNat = 48 + d := by
  rw [UInt8.toNat_ofNat']; omega
theorem digGo_dec : ∀ v : Nat, digGo 0 (Lib.decDigits v) = some v := fun v => by
  induction v using Nat.strongRecOn with
  | _ v ih =>
    by_cases h : v < 10
    · rw [Lib.decDigits_one h]
      have := ofNat_dig h
      rw [digGo, digGo, if_pos (by unfold isDig; rw [this]; simp; omega), this]
      congr 1; omega
    · rw [Lib.decDigits, dif_neg h, digGo_snoc, ih (v / 10) (by omega)]
      have := ofNat_dig (d := v % 10) (by omega)
      simp only [Option.bind_some]
      rw [if_pos (by unfold isDig; rw [this]; simp; omega), this]
      congr 1; omega
theorem dec_ne (v : Nat) : Lib.decDigits v ≠ [] := by
  intro e
  by_cases h : v < 10
  · rw [Lib.decDigits_one h] at e; cases e
  · rw [Lib.decDigits, dif_neg h] at e; simp at e
theorem dec_head : ∀ v : Nat, 1 ≤ v → (Lib.decDigits v)[0]? ≠ some 48 := fun v => by
  induction v using Nat.strongRecOn with
  | _ v ih =>
    intro h1
    by_cases h : v < 10
    · rw [Lib.decDigits_one h]
      intro e
      simp only [List.getElem?_cons_zero, Option.some.injEq] at e
      have := congrArg UInt8.toNat e
      rw [ofNat_dig h] at this
      have h48 : (48 : UInt8).toNat = 48 := rfl
      omega
    · rw [Lib.decDigits, dif_neg h]
      have hp : 0 < (Lib.decDigits (v / 10)).length := List.length_pos_iff.2 (dec_ne _)
      rw [List.getElem?_append_left hp]
      exact ih (v / 10) (by omega) (by omega)
theorem value_dec {v : Nat} (h : (Lib.decDigits v).length ≤ 9) : valueL (Lib.decDigits v) = (v : Int) := by
  unfold valueL
  have hp : 0 < (Lib.decDigits v).length := List.length_pos_iff.2 (dec_ne _)
  rw [if_neg (by
    rintro (h1 | h1 | ⟨h1, h2⟩)
    · omega
    · omega
    · by_cases h0 : 1 ≤ v
      · exact dec_head v h0 h2
      · have : v = 0 := by omega
        subst this
        rw [Lib.decDigits_one (by omega)] at h1
        simp at h1), digGo_dec]
  rfl
theorem dec_of : ∀ (k : Nat) (s : List UInt8) (n : Nat), s.length = k → s ≠ [] → (1 < s.length → s[0]? ≠ some 48) → digGo 0 s = some n → s = Lib.decDigits n := by
  intro k
  induction k with
  | zero => intro s n h h0; exact absurd (List.eq_nil_of_length_eq_zero h) h0
  | succ k ih =>
    intro s n hk h0 hz hg
    have hs := List.dropLast_concat_getLast h0
    obtain ⟨l, hl⟩ : ∃ l, s.dropLast = l := ⟨_, rfl⟩
    obtain ⟨c, hc⟩ : ∃ c, s.getLast h0 = c := ⟨_, rfl⟩
    rw [hl, hc] at hs
    subst hs
    clear hl hc
    rw [digGo_snoc] at hg
    obtain ⟨m, hm, hd⟩ := Option.bind_eq_some_iff.1 hg
    have hdig : isDig c = true := by
      cases hq : isDig c with
      | true => rfl
      | false => rw [hq] at hd; cases hd
    rw [if_pos hdig] at hd
    simp only [Option.some.injEq] at hd
    have hcd : 48 ≤ c.toNat ∧ c.toNat ≤ 57 := by simpa [isDig] using hdig
    have hcn : UInt8.ofNat (48 + (c.toNat - 48)) = c := by rw [show 48 + (c.toNat - 48) = c.toNat by omega]; exact UInt8.ofNat_toNat
    cases l with
    | nil =>
      simp only [digGo, Option.some.injEq] at hm
      subst hm
      rw [Lib.decDigits_one (by omega), ← hd]
      simp [hcn]
    | cons x l =>
      have hx : x ≠ 48 := by
        have := hz (by simp)
        simpa using this
      have e := ih (x :: l) m (by simpa using hk) (by simp) (fun _ => by simpa using hx) hm
      have hm1 : 1 ≤ m := by
        rcases Nat.eq_zero_or_pos m with h | h
        · subst h
          rw [Lib.decDigits_one (by omega)] at e
          simp only [List.cons.injEq] at e
          exact absurd e.1 hx
        · exact h
      rw [Lib.decDigits, dif_neg (by omega), show n / 10 = m by omega, show n % 10 = c.toNat - 48 by omega, hcn, ← e]
theorem value_of {s : List UInt8} (h : 0 ≤ valueL s) : ∃ n : Nat, valueL s = (n : Int) ∧ s = Lib.decDigits n ∧ s.length ≤ 9 ∧ n ≤ 999999999 := by
  unfold valueL at h ⊢
  split at h
  · omega
  · rename_i hc
    rw [if_neg hc]
    cases hg : digGo 0 s with
    | none => rw [hg] at h; simp [optI] at h
    | some n =>
      have hs := dec_of s.length s n rfl (fun e => hc (Or.inl (by rw [e]; rfl))) (fun h1 h2 => hc (Or.inr (Or.inr ⟨h1, h2⟩))) hg
      refine ⟨n, rfl, hs, by omega, ?_⟩
      have hbd : ∀ (l : List UInt8) (a m : Nat), digGo a l = some m → m + 1 ≤ (a + 1) * 10 ^ l.length := fun l => by
        induction l with
        | nil => intro a m h; simp only [digGo, Option.some.injEq] at h; subst h; simp
        | cons c l ih =>
          intro a m h
          rw [digGo] at h
          split at h
          · rename_i hd
            have hcd : 48 ≤ c.toNat ∧ c.toNat ≤ 57 := by simpa [isDig] using hd
            have := ih _ _ h
            rw [List.length_cons, Nat.pow_succ]
            refine Nat.le_trans this ?_
            rw [Nat.mul_comm (10 ^ l.length) 10, ← Nat.mul_assoc]
            exact Nat.mul_le_mul_right _ (by omega)
          · cases h
      have h1 := hbd s 0 n hg
      have h2 : 10 ^ s.length ≤ 10 ^ 9 := Nat.pow_le_pow_right (by omega) (by omega)
      omega
theorem value_cases (s : List UInt8) : valueL s = -1 ∨ 0 ≤ valueL s := by
  unfold valueL
  split
  · exact Or.inl rfl
  · cases digGo 0 s with
    | none => exact Or.inl rfl
    | some n => exact Or.inr (Int.natCast_nonneg n)
theorem digGo_le : ∀ (l : List UInt8) (a m : Nat), digGo a l = some m → a ≤ m
  | [], a, m, h => by simp only [digGo, Option.some.injEq] at h; omega
  | c :: l, a, m, h => by
    rw [digGo] at h
    split at h
    · have := digGo_le l _ _ h; omega
    · cases h
theorem parse_dig : ∀ (l : List UInt8) (a m : Nat), digGo a l = some m → m ≤ 1000000000000000000 → Lib.parseUintM (2 ^ 64 - 1) a l = .ok m
  | [], a, m, h, _ => by simp only [digGo, Option.some.injEq] at h; subst h; rfl
  | c :: l, a, m, h, hm => by
    rw [digGo] at h
    split at h
    · rename_i hd
      have hcd : 48 ≤ c.toNat ∧ c.toNat ≤ 57 := by simpa [isDig] using hd
      have hle := digGo_le l _ _ h
      have e : (2 : Nat) ^ 64 - 1 = 18446744073709551615 := by decide
      rw [Lib.parseUintM, if_pos hcd, if_neg (by omega), if_neg (by rw [e]; omega)]
      exact parse_dig l _ m h hm
    · cases h
theorem parse_dec {n : Nat} (h : n ≤ 1000000000) : Lib.parseIntB 64 (Lib.decDigits n) = .ok (n : Int) := by
  have hg := digGo_dec n
  cases hd : Lib.decDigits n with
  | nil => exact absurd hd (dec_ne n)
  | cons c r =>
    rw [hd] at hg
    have hp := parse_dig _ 0 n hg (by omega)
    have hc : isDig c = true := by
      rw [digGo] at hg
      split at hg
      · assumption
      · cases hg
    have hcd : 48 ≤ c.toNat ∧ c.toNat ≤ 57 := by simpa [isDig] using hc
    rw [Lib.parseIntB_plain 64 c r (by omega) (by omega)]
    unfold Lib.parseUintB
    rw [if_neg (by simp), hp]
    have e : (2 : Nat) ^ (64 - 1) = 9223372036854775808 := by decide
    show (if 2 ^ (64 - 1) ≤ n then Lib.NumEnd.range else Lib.NumEnd.ok (n : Int)) = _
    rw [if_neg (by rw [e]; omega)]
end Go.Rk
