/- Plain facts: the text of a tableau is read back to it. -/
import Derived.Test.YthepgmajeljdhaaGreatDoorZG
import Derived.Lib.ItoaMem
namespace Go.Rk
open Go.Fw Go.Proofs
theorem split1_app {b : UInt8} {u v : List UInt8} (h : b ∉ u) : split1 b (u ++ b :: v) = u :: split1 b v := by
  have := split1_at (b := b) (l := u ++ b :: v) (m := u.length) (fun k hk hm => by
    rw [List.getElem_append_left hm]
    intro e
    exact h (by rw [← e]; exact List.getElem_mem hm)) (by simp)
  rw [this]
  simp
theorem split1_only {b : UInt8} {u : List UInt8} (h : b ∉ u) : split1 b u = [u] := split1_none fun k hk e => h (by rw [← e]; exact List.getElem_mem hk)
theorem split1_join {b : UInt8} : ∀ {xs : List (List UInt8)}, xs ≠ [] → (∀ x ∈ xs, b ∉ x) → split1 b (Lib.join xs [b]) = xs
  | [], h, _ => absurd rfl h
  | [x], _, h => by rw [Lib.join_one]; exact split1_only (h x (by simp))
  | x :: y :: r, _, h => by
    have e : Lib.join (x :: y :: r) [b] = x ++ b :: Lib.join (y :: r) [b] := by
      rw [Lib.join_cons, Lib.join_cons]
      simp [Lib.joinTail]
    rw [e, split1_app (h x (by simp)), split1_join (by simp) fun z hz => h z (by simp [hz])]
theorem mem_join {b c : UInt8} : ∀ {xs : List (List UInt8)}, c ∈ Lib.join xs [b] → c = b ∨ ∃ x ∈ xs, c ∈ x
  | [], h => by rw [Lib.join_nil] at h; cases h
  | [x], h => by rw [Lib.join_one] at h; exact Or.inr ⟨x, by simp, h⟩
  | x :: y :: r, h => by
    have e : Lib.join (x :: y :: r) [b] = x ++ b :: Lib.join (y :: r) [b] := by
      rw [Lib.join_cons, Lib.join_cons]
      simp [Lib.joinTail]
    rw [e] at h
    rcases List.mem_append.1 h with h | h
    · exact Or.inr ⟨x, by simp, h⟩
    · rcases List.mem_cons.1 h with h | h
      · exact Or.inl h
      · rcases mem_join h with h | ⟨z, hz, hc⟩
        · exact Or.inl h
        · exact Or.inr ⟨z, List.mem_cons_of_mem _ hz, hc⟩
theorem dec_mem (v : Nat) : ∀ c ∈ Lib.decDigits v, isDig c = true := by
  induction v using Nat.strongRecOn with
  | _ v ih =>
    intro c hc
    by_cases h : v < 10
    · rw [Lib.decDigits_one h] at hc
      have := ofNat_dig h
      simp only [List.mem_singleton] at hc
      subst hc
      unfold isDig; rw [this]; simp; omega
    · rw [Lib.decDigits, dif_neg h] at hc
      rcases List.mem_append.1 hc with hc | hc
      · exact ih (v / 10) (by omega) c hc
      · have := ofNat_dig (d := v % 10) (by omega)
        simp only [List.mem_singleton] at hc
        subst hc
        unfold isDig; rw [this]; simp; omega
theorem itoa_mem (p : Int) : ∀ c ∈ Lib.itoa p, isDig c = true ∨ c = 45 := by
  intro c hc
  unfold Lib.itoa at hc
  split at hc
  · rcases List.mem_cons.1 hc with h | h
    · exact Or.inr h
    · exact Or.inl (dec_mem _ c h)
  · exact Or.inl (dec_mem _ c hc)
theorem frac_mem (p q : Int) : ∀ c ∈ fracText p q, isDig c = true ∨ c = 45 ∨ c = 47 := by
  intro c hc
  unfold fracText at hc
  split at hc
  · rcases itoa_mem p c hc with h | h
    · exact Or.inl h
    · exact Or.inr (Or.inl h)
  · rcases List.mem_append.1 hc with hc | hc
    · rcases List.mem_append.1 hc with hc | hc
      · rcases itoa_mem p c hc with h | h
        · exact Or.inl h
        · exact Or.inr (Or.inl h)
      · exact Or.inr (Or.inr (by simpa using hc))
    · rcases itoa_mem q c hc with h | h
      · exact Or.inl h
      · exact Or.inr (Or.inl h)
/-- The text of a number is that of a short fraction with its value, or that of itself. -/
theorem numGo_cases (a : Int) : ∀ (f : Nat) (q : Int), 1 ≤ q → q + f ≤ 71 → (∃ k : Int, 1 ≤ k ∧ k ≤ 70 ∧ fits70 (symm a k) k = true ∧ numGo a f q = fracText (symm a k) k) ∨ numGo a f q = Lib.itoa a
  | 0, q, _, _ => Or.inr (by unfold numGo; rfl)
  | f + 1, q, h, h' => by
    unfold numGo
    split
    · rename_i hf; exact Or.inl ⟨q, h, by omega, hf, rfl⟩
    · exact numGo_cases a f (q + 1) (by omega) (by omega)
theorem numText_cases (a : Int) : (∃ k : Int, 1 ≤ k ∧ k ≤ 70 ∧ fits70 (symm a k) k = true ∧ numText a = fracText (symm a k) k) ∨ numText a = Lib.itoa a := by
  have := numGo_cases a 70 1 (by omega) (by omega)
  unfold numText
  exact this
theorem numText_mem (a : Int) : ∀ c ∈ numText a, isDig c = true ∨ c = 45 ∨ c = 47 := by
  intro c hc
  rcases numText_cases a with ⟨k, _, _, _, h⟩ | h
  · rw [h] at hc; exact frac_mem _ _ c hc
  · rw [h] at hc
    rcases itoa_mem a c hc with h | h
    · exact Or.inl h
    · exact Or.inr (Or.inl h)
theorem numText_not {a : Int} {c : UInt8} (h1 : isDig c = false) (h2 : c ≠ 45) (h3 : c ≠ 47) : c ∉ numText a := by
  intro hc
  rcases numText_mem a c hc with h | h | h
  · rw [h1] at h; cases h
  · exact h2 h
  · exact h3 h
theorem dec_len {v : Nat} (h : v ≤ 999999999) : (Lib.decDigits v).length ≤ 9 := by
  have key : ∀ (k v : Nat), v < 10 ^ k → 1 ≤ k → (Lib.decDigits v).length ≤ k := fun k => by
    induction k with
    | zero => intro v _ h; omega
    | succ k ih =>
      intro v hv _
      by_cases h : v < 10
      · rw [Lib.decDigits_one h]; simp
      · rw [Lib.decDigits, dif_neg h]
        have hk : 1 ≤ k := by
          rcases Nat.eq_zero_or_pos k with h0 | h0
          · subst h0; simp at hv; omega
          · exact h0
        have := ih (v / 10) (by rw [Nat.pow_succ] at hv; omega) hk
        simp only [List.length_append, List.length_singleton]
        omega
  exact key 9 v (by have : (10 : Nat) ^ 9 = 1000000000 := by decide
                    omega) (by omega)
theorem no47 (v : Nat) : (47 : UInt8) ∉ Lib.decDigits v := fun h => by
  have := dec_mem v _ h
  revert this; decide
theorem cut_none {b : UInt8} {u : List UInt8} (h : b ∉ u) : Lib.cut u [b] = (u, [], false) := by
  rcases cut_parts b u with ⟨h1, _⟩ | ⟨x, y, _, h2⟩
  · exact h1
  · rw [split1_only h] at h2
    have := List.length_pos_iff.2 (split1_ne b y)
    simp at h2
    exact absurd h2.2 (split1_ne b y)
theorem cut_hit {b : UInt8} {u v : List UInt8} (h : b ∉ u) : Lib.cut (u ++ b :: v) [b] = (u, v, true) := by
  rcases cut_parts b (u ++ b :: v) with ⟨_, h1⟩ | ⟨x, y, h1, h2⟩
  · rw [split1_app h] at h1
    simp at h1
  · have hj := cut_join h1
    rw [split1_app h] at h2
    simp only [List.cons.injEq] at h2
    obtain ⟨rfl, _⟩ := h2
    have : v = y := by simpa using hj
    subst this
    exact h1
theorem body_itoa (p : Int) (r : List UInt8) : negL (Lib.itoa p ++ r) = decide (p < 0) ∧ bodyL (Lib.itoa p ++ r) = Lib.decDigits p.natAbs ++ r := by
  unfold bodyL Lib.itoa
  by_cases h : p < 0
  · rw [if_pos h]
    have hn : negL (45 :: Lib.decDigits p.natAbs ++ r) = true := rfl
    rw [hn, decide_eq_true h]
    exact ⟨rfl, rfl⟩
  · rw [if_neg h, show p.toNat = p.natAbs by omega]
    have hn : negL (Lib.decDigits p.natAbs ++ r) = false := by
      cases hd : Lib.decDigits p.natAbs with
      | nil => exact absurd hd (dec_ne _)
      | cons c l =>
        have hc := dec_mem p.natAbs c (by rw [hd]; simp)
        show (some c == some (45 : UInt8)) = false
        cases hq : (some c == some (45 : UInt8)) with
        | false => rfl
        | true =>
          have : c = 45 := by simpa using hq
          subst this
          exact absurd hc (by decide)
    rw [hn, decide_eq_false h]
    exact ⟨rfl, rfl⟩
theorem signed (p : Int) : (if decide (p < 0) = true then -1 else 1) * ((p.natAbs : Nat) : Int) = p := by
  by_cases h : p < 0
  · rw [decide_eq_true h, if_pos rfl]; omega
  · rw [decide_eq_false h, if_neg (by simp)]; omega
theorem finP_num {p q : Int} (hq : 1 ≤ q) (hq2 : q ≤ 70) : finP ((p.natAbs : Nat) : Int) q (decide (p < 0)) = (nm (p * powN (nm q) 10005), 0) := by
  unfold finP
  rw [if_neg (by
    rintro (h | h | ⟨h, h'⟩)
    · omega
    · omega
    · have := of_decide_eq_true h'; omega), if_neg (by rw [Int.tmod_eq_emod_of_nonneg (by omega)]; omega), signed, nm_nm_mul]
theorem inv_tab : ((List.range 70).all fun i => decide (nm (powF 14 (nm ((i + 1 : Nat) : Int)) 1 10005 * ((i + 1 : Nat) : Int)) = 1)) = true := by kernel_rfl
theorem inv_small {q : Int} (h0 : 1 ≤ q) (h1 : q ≤ 70) : nm (powN (nm q) 10005 * q) = 1 := by
  obtain ⟨k, rfl⟩ : ∃ k : Nat, q = (k : Int) := ⟨q.toNat, by omega⟩
  have h := List.all_eq_true.1 inv_tab (k - 1) (List.mem_range.2 (by omega))
  rw [show k - 1 + 1 = k from by omega] at h
  have h2 := of_decide_eq_true h
  rw [powF_eq _ _ _ _ (by decide)] at h2
  exact h2
/-- p over q is a. -/
theorem frac_back {a p q : Int} (ha : isN a = true) (h : nm (p - a * q) = 0) (h0 : 1 ≤ q) (h1 : q ≤ 70) : nm (p * powN (nm q) 10005) = a := by
  have hi := inv_small h0 h1
  obtain ⟨u, hu⟩ : ∃ u, powN (nm q) 10005 = u := ⟨_, rfl⟩
  rw [hu] at hi ⊢
  have hp : nm p = nm (a * q) := by unfold nm at h ⊢; omega
  rw [← nm_nm_mul, hp, nm_nm_mul, Int.mul_assoc, Int.mul_comm q u, ← nm_mul_nm, hi, Int.mul_one, nm_of ha]
theorem parse_frac {a k : Int} (ha : isN a = true) (h0 : 1 ≤ k) (h1 : k ≤ 70) : parseNum (fracText (symm a k) k) = (a, 0) := by
  have hb := symm_bd a k
  obtain ⟨p, hp⟩ : ∃ p, symm a k = p := ⟨_, rfl⟩
  have hs := symm_nm a k
  rw [hp] at hb hs ⊢
  have hv : valueL (Lib.decDigits p.natAbs) = (p.natAbs : Nat) := value_dec (dec_len (by omega))
  unfold fracText
  split
  · rename_i hk
    subst hk
    have hbody := body_itoa p []
    rw [List.append_nil, List.append_nil] at hbody
    have hc : Lib.cut (bodyL (Lib.itoa p)) [47] = (bodyL (Lib.itoa p), [], false) := by rw [hbody.2]; exact cut_none (no47 _)
    rcases parse_cut (Lib.itoa p) with ⟨_, h2⟩ | ⟨u, v, h2, _⟩
    · rw [h2, hbody.1, hbody.2, hv, finP_num (by omega) (by omega), frac_back ha hs (by omega) (by omega)]
    · rw [hc] at h2; simp at h2
  · have hbody := body_itoa p (47 :: Lib.itoa k)
    have hik : Lib.itoa k = Lib.decDigits k.natAbs := by unfold Lib.itoa; rw [if_neg (by omega), show k.toNat = k.natAbs by omega]
    have hc : Lib.cut (bodyL (Lib.itoa p ++ 47 :: Lib.itoa k)) [47] = (Lib.decDigits p.natAbs, Lib.itoa k, true) := by rw [hbody.2]; exact cut_hit (no47 _)
    rw [List.append_assoc, List.singleton_append]
    rcases parse_cut (Lib.itoa p ++ 47 :: Lib.itoa k) with ⟨h2, _⟩ | ⟨u, v, h2, h3⟩
    · rw [hc] at h2; simp at h2
    · rw [hc] at h2
      simp only [Prod.mk.injEq, and_true] at h2
      obtain ⟨rfl, rfl⟩ := h2
      have hv2 : valueL (Lib.decDigits k.natAbs) = (k.natAbs : Nat) := value_dec (dec_len (by omega))
      rw [h3, hbody.1, hv, hik, hv2, show ((k.natAbs : Nat) : Int) = k by omega, finP_num h0 h1, frac_back ha hs h0 h1]
theorem parse_numText {a : Int} (ha : isN a = true) : parseNum (numText a) = (a, 0) := by
  have hbd := isN_bd ha
  rcases numText_cases a with ⟨k, h0, h1, _, h⟩ | h
  · rw [h]; exact parse_frac ha h0 h1
  · rw [h]
    have hv : valueL (Lib.decDigits a.natAbs) = (a.natAbs : Nat) := value_dec (dec_len (by omega))
    have hbody := body_itoa a []
    rw [List.append_nil, List.append_nil] at hbody
    have hc : Lib.cut (bodyL (Lib.itoa a)) [47] = (bodyL (Lib.itoa a), [], false) := by rw [hbody.2]; exact cut_none (no47 _)
    rcases parse_cut (Lib.itoa a) with ⟨_, h2⟩ | ⟨u, v, h2, _⟩
    · rw [h2, hbody.1, hbody.2, hv, finP_num (by omega) (by omega), frac_back ha (by rw [Int.mul_one, Int.sub_self]; exact nm_zero) (by omega) (by omega)]
    · rw [hc] at h2; simp at h2
theorem readL_line {xs : List Int} (hne : xs ≠ []) (ha : allN xs = true) : readL (lineL xs) = (xs, true) := by
  have hs : split1 32 (lineL xs) = xs.map numText := by
    unfold lineL
    exact split1_join (by simpa using hne) fun x hx => by
      obtain ⟨a, _, rfl⟩ := List.mem_map.1 hx
      exact numText_not (by decide) (by decide) (by decide)
  have hN : ∀ a ∈ xs, isN a = true := fun a h => List.all_eq_true.1 (by unfold allN at ha; exact ha) a h
  unfold readL
  rw [hs, if_pos]
  · rw [List.map_map]
    congr 1
    have : ∀ a ∈ xs, (numN ∘ numText) a = a := fun a h => by
      show (parseNum (numText a)).1 = a
      rw [parse_numText (hN a h)]
    rw [List.map_congr_left this, List.map_id']
  · refine List.all_eq_true.2 fun p hp => ?_
    obtain ⟨a, h, rfl⟩ := List.mem_map.1 hp
    unfold goodN
    rw [parse_numText (hN a h)]
    rfl
theorem line_mem {xs : List Int} {c : UInt8} (h1 : isDig c = false) (h2 : c ≠ 45) (h3 : c ≠ 47) (h4 : c ≠ 32) : c ∉ lineL xs := by
  intro h
  unfold lineL at h
  rcases mem_join h with h | ⟨x, hx, h⟩
  · exact h4 h
  · obtain ⟨a, _, rfl⟩ := List.mem_map.1 hx
    exact numText_not h1 h2 h3 h
/-- The text of a tableau is read back to it. -/
theorem parse_text {x : TabD} (hx : isTab x = true) : parseTab (tabText x) = (x, 0) := by
  have tX := isTab_iff hx
  have hsq := tX.sq
  have hpos := tX.pos
  have hne2 : x.2 ≠ [] := fun e => by rw [e] at hpos; simp at hpos
  have hne1 : x.1 ≠ [] := fun e => by rw [e] at hsq; simp at hsq; omega
  have hA : (124 : UInt8) ∉ Lib.join (x.1.map lineL) [59] := fun h => by
    rcases mem_join h with h | ⟨l, hl, h⟩
    · revert h; decide
    · obtain ⟨r, _, rfl⟩ := List.mem_map.1 hl
      exact line_mem (by decide) (by decide) (by decide) (by decide) h
  have hB : (124 : UInt8) ∉ lineL x.2 := line_mem (by decide) (by decide) (by decide) (by decide)
  have hs : split1 124 (tabText x) = [Lib.join (x.1.map lineL) [59], lineL x.2] := by
    unfold tabText
    rw [List.append_assoc, List.singleton_append, split1_app hA, split1_only hB]
  have hrows : split1 59 (Lib.join (x.1.map lineL) [59]) = x.1.map lineL := split1_join (by simpa using hne1) fun l hl => by
    obtain ⟨r, _, rfl⟩ := List.mem_map.1 hl
    exact line_mem (by decide) (by decide) (by decide) (by decide)
  have hr : ∀ r ∈ x.1, readL (lineL r) = (r, true) := fun r hr => by
    have := tX.row r hr
    exact readL_line (fun e => by have := this.1; rw [e] at this; simp at this; omega) this.2
  unfold parseTab
  rw [hs, if_pos (show [Lib.join (x.1.map lineL) [59], lineL x.2].length = 2 from rfl)]
  show tabIf (Lib.join (x.1.map lineL) [59]) (lineL x.2) = (x, 0)
  have e1 : readL (lineL x.2) = (x.2, true) := readL_line hne2 tX.last
  have e2 : rowsL (Lib.join (x.1.map lineL) [59]) = x.1 := by
    unfold rowsL
    rw [hrows, List.map_map]
    have : ∀ r ∈ x.1, ((fun r => (readL r).1) ∘ lineL) r = r := fun r h => by
      show (readL (lineL r)).1 = r
      rw [hr r h]
    rw [List.map_congr_left this, List.map_id']
  have e3 : fineL (Lib.join (x.1.map lineL) [59]) = true := by
    unfold fineL
    rw [hrows]
    refine List.all_eq_true.2 fun l hl => ?_
    obtain ⟨r, h, rfl⟩ := List.mem_map.1 hl
    rw [hr r h]
  unfold tabIf
  rw [e1, e2, e3, if_pos ⟨rfl, rfl, hx⟩]
end Go.Rk
