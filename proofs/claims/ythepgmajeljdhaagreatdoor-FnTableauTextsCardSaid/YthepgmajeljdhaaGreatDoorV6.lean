/- Drawn texts: DrawParseTableau ends, and gives a text that is not too long. -/
import Derived.Test.YthepgmajeljdhaaGreatDoorV5
import Derived.Test.YthepgmajeljdhaaGreatDoorV2
import Derived.Test.YthepgmajeljdhaaGreatDoorD4
import Derived.Test.YthepgmajeljdhaaGreatDoorZ4
set_option maxRecDepth 8000
namespace Go.Rk
open Go.Fw Go.Proofs
/-- After n more numbers the loop is over at the latest: it asks at n or at n + 2. -/
def GoodN (n g : Nat) : Prop := n % 2 = 0 ∧ ((thr (runG n (lcgG g)) ≠ 0 ∧ thr (runG (n + 2) (lcgG g)) ≠ 0) ∨ (n = 0 ∧ thr (lcgG g) ≠ 0))
theorem goodN_some (g : Nat) : ∃ n, n ≤ 4000000000 ∧ GoodN n g := by
  obtain ⟨n, h1, h2, h3, h4⟩ := soon (lcgG g)
  exact ⟨n, h2, h1, Or.inl ⟨h3, h4⟩⟩
theorem goodN_step {n g d : Nat} (h : GoodN n g) (h0 : thr (lcgG g) = 0) (hd : d = 1 ∨ d = 3) : ∃ n', n' + 2 ≤ n ∧ GoodN n' (runG d (lcgG g)) := by
  obtain ⟨he, h1⟩ := h
  rcases h1 with ⟨h1, h2⟩ | ⟨_, h2⟩
  · have hn : 2 ≤ n := by
      rcases Nat.eq_zero_or_pos n with h3 | h3
      · rw [h3, runG_zero] at h1; exact absurd h0 h1
      · omega
    have key : ∀ m, runG m (lcgG (runG d (lcgG g))) = runG (d + 1 + m) (lcgG g) := fun m => by
      rw [runG_add, runG_add, runG_one]
    by_cases hle : d + 1 ≤ n
    · refine ⟨n - (d + 1), by omega, by omega, Or.inl ⟨?_, ?_⟩⟩
      · rw [key, show d + 1 + (n - (d + 1)) = n by omega]; exact h1
      · rw [key, show d + 1 + (n - (d + 1) + 2) = n + 2 by omega]; exact h2
    · have hn2 : n = 2 := by omega
      have hd3 : d = 3 := by omega
      refine ⟨0, by omega, rfl, Or.inr ⟨rfl, ?_⟩⟩
      have := key 0
      rw [runG_zero, hd3] at this
      rw [hd3, this]
      rw [hn2] at h2
      exact h2
  · exact absurd h0 h2
structure LI (r g n len : Nat) : Prop where
  out : r = 0 → GoodN n g ∧ n ≤ 4000000000 ∧ 2 * len + n ≤ 4000040000
  inn : 0 < r → 2 * len + 2 * r ≤ 40000
def muL (r n : Nat) : Nat := r * 5000000000 + (if r = 0 then n else 0)
theorem LI.start {r g len : Nat} (hr : r ≤ 4096) (hl : len ≤ 10000) : ∃ n, LI r g n len := by
  obtain ⟨n, h1, h2⟩ := goodN_some g
  exact ⟨n, fun _ => ⟨h2, h1, by omega⟩, fun _ => by omega⟩
theorem LI.len {r g n len : Nat} (h : LI r g n len) : len ≤ 2000020000 := by
  rcases Nat.eq_zero_or_pos r with h1 | h1
  · have := (h.out h1).2.2; omega
  · have := h.inn h1; omega
theorem LI.next {r g n len len' d : Nat} (h : LI r g n len) (hl : len' ≤ len + 1) (h0 : r = 0 → thr (lcgG g) = 0) (hd : d = 1 ∨ d = 3) : ∃ n', LI (r - 1 - d) (runG d (lcgG g)) n' len' ∧ muL (r - 1 - d) n' < muL r n := by
  rcases Nat.eq_zero_or_pos r with h1 | h1
  · obtain ⟨hg, hn, hb⟩ := h.out h1
    obtain ⟨n', a1, a2⟩ := goodN_step hg (h0 h1) hd
    subst h1
    refine ⟨n', ⟨fun _ => ⟨a2, by omega, by omega⟩, fun h => by omega⟩, ?_⟩
    unfold muL
    rw [show 0 - 1 - d = 0 by omega, if_pos rfl, if_pos rfl]
    omega
  · have hb := h.inn h1
    obtain ⟨n', a1, a2⟩ := goodN_some (runG d (lcgG g))
    refine ⟨n', ⟨fun _ => ⟨a2, a1, by omega⟩, fun h => by omega⟩, ?_⟩
    unfold muL
    rw [if_neg (show ¬ r = 0 by omega)]
    have : r - 1 - d + 1 ≤ r := by omega
    have h3 : (r - 1 - d + 1) * 5000000000 ≤ r * 5000000000 := Nat.mul_le_mul_right _ this
    split <;> omega
end Go.Rk
namespace Go.Proofs
open Go Go.Fw Go.RowKit Go.Rk
theorem DrawTableauText_any {lo hi : Nat} {w : World} {v : Value} {bs : List Int} (h : IU lo hi w v bs) (hn : bs.length ≤ 4096) :
    Does Tryz.prog 6 [v] w fun r w' => (∃ x, Sm x ∧ IT (w.heap.size + 1) w'.heap.size w' r x) ∧ Chg 0 0 w w' := by
  refine Does.enter Tryz.func6 Tryz.ntmps6 rfl (by rfl) ?_
  repeat' (first|refine X.O ?_|refine X.A ?_|refine X.B ?_|refine X.C ?_|refine X.D ?_|refine X.E ?_|refine X.F ?_|refine X.G ?_|refine X.H ?_|refine X.I ?_|fail)
  refine WL.step (o_alloc ?_)
  intro w1 hb1 hbl1 hz1
  repeat' (first|refine X.O ?_|refine X.A ?_|refine X.B ?_|refine X.C ?_|refine X.D ?_|refine X.E ?_|refine X.F ?_|refine X.G ?_|refine X.H ?_|refine X.I ?_|fail)
  refine WL.call (l01From_any (h.below RU.stable hbl1 h.hi_le) hn) ?_
  rintro _ w2 ⟨rfl, hs2, hc2⟩
  have hz2 := hs2.lt
  refine WL.call (l09Spoil_any hs2 4 (by omega) (by omega)) ?_
  rintro v3 w3 ⟨⟨x, hsm, hT⟩, hd3⟩
  have hz3 := hd3.chg.size
  have hc3 : Chg 0 0 w w3 := Chg.of_below ⟨by rw [hd3.chg.os, hc2.os, hbl1.os], by rw [hd3.chg.tape, hc2.tape, hbl1.tape], by rw [hd3.chg.output, hc2.output, hbl1.output], by omega, fun k hk => by rw [hd3.chg.block k (by omega) (by omega), hc2.block k (by omega) (by omega), hbl1.block k hk]⟩
  have hb3 : Blk w3 w.heap.size _ _ := (hb1.chg0 hc2).chg hd3.chg (by omega)
  obtain ⟨a, n, c, a', n', c', rfl⟩ := hT.cells
  refine WL.step (o_storeS (vs := [.slice a n c, .slice a' n' c']) (by rfl) (by rfl) hb3 (by rfl) (by rfl) two_cells ?_)
  intro w4 hb4 hbut4
  have hz4 := hbut4.size
  repeat' (first|refine X.O ?_|refine X.A ?_|refine X.B ?_|refine X.C ?_|refine X.D ?_|refine X.E ?_|refine X.F ?_|refine X.G ?_|refine X.H ?_|refine X.I ?_|fail)
  refine ⟨_, retS rfl (by rfl) hb4 (by rfl), ⟨x, hsm, ?_⟩, ?_⟩
  · exact (hT.chg hbut4.chg (by omega)).wide (by omega) (by omega) (Nat.le_refl _)
  · exact Chg.of_below ((hc3.below (Nat.le_refl _) (Or.inr (Nat.le_refl _))).trans (hbut4.below (Nat.le_refl _)))
set_option maxHeartbeats 1000000 in
theorem DrawParseTableau_any {lo hi : Nat} {w : World} {v : Value} {bs : List Int} (h : IU lo hi w v bs) (hn : bs.length ≤ 4096) :
    Does Tryz.prog 12 [v] w fun r w' => (∃ t, r = St t ∧ t.length ≤ 3000000000) ∧ Below w.heap.size w w' := by
  refine Does.enter Tryz.func12 Tryz.ntmps12 rfl (by rfl) ?_
  repeat' (first|refine X.O ?_|refine X.A ?_|refine X.B ?_|refine X.C ?_|refine X.D ?_|refine X.E ?_|refine X.F ?_|refine X.G ?_|refine X.H ?_|refine X.I ?_|fail)
  refine WL.call (l01From_any h hn) ?_
  rintro _ w1 ⟨rfl, hs1, hc1⟩
  have hz1 := hs1.lt
  have hB1 : Below w.heap.size w w1 := hc1.below (Nat.le_refl _) (Or.inr (Nat.zero_le _))
  repeat' (first|refine X.O ?_|refine X.A ?_|refine X.B ?_|refine X.C ?_|refine X.D ?_|refine X.E ?_|refine X.F ?_|refine X.G ?_|refine X.H ?_|refine X.I ?_|fail)
  refine WL.call (l09Draw_tab hs1 4 (by omega) (by omega)) ?_
  rintro v2 w2 ⟨⟨x, tX, oT⟩, hd2⟩
  have hz2 := hd2.chg.size
  have hB2 := hB1.trans (hd2.chg.below (by omega) (Or.inl (Nat.le_refl _)))
  refine WL.call (l09Text_any oT.rd tX) ?_
  rintro _ w3 ⟨rfl, hb3⟩
  have hz3 := hb3.size
  have hs3 := hd2.src.below hb3 hd2.src.lt
  have hB3 := hB2.trans (Below.mono hb3 (by omega))
  have htl := tabText_length tX
  repeat' (first|refine X.O ?_|refine X.A ?_|refine X.B ?_|refine X.C ?_|refine X.D ?_|refine X.E ?_|refine X.F ?_|refine X.G ?_|refine X.H ?_|refine X.I ?_|fail)
  refine WL.call (l01Next_any hs3 6 (by omega)) ?_
  rintro _ w4 ⟨⟨y, rfl, _, hy⟩, hd4⟩
  have hz4 := hd4.chg.size
  have hB4 := hB3.trans (hd4.chg.below (by omega) (Or.inl (Nat.le_refl _)))
  repeat' (first|refine X.O ?_|refine X.A ?_|refine X.B ?_|refine X.C ?_|refine X.D ?_|refine X.E ?_|refine X.F ?_|refine X.G ?_|refine X.H ?_|refine X.I ?_|fail)
  refine WP.mid (fun l' y => ∃ t, Agree l' [(3, .pointer (some ⟨w.heap.size, 0, none⟩)), (4, St t)] ∧ t.length ≤ 10000 ∧ Srce w.heap.size y ∧ Below w.heap.size w y) ?_ ?_
  · first|refine X.J (fun _ => ?_) (fun _ => ?_)|refine X.L (fun _ => ?_) (fun _ => ?_)|refine X.M (fun _ => ?_) (fun _ => ?_)|refine X.R (fun _ => ?_) (fun _ => ?_)|fail
    · repeat' (first|refine X.O ?_|refine X.A ?_|refine X.B ?_|refine X.C ?_|refine X.D ?_|refine X.E ?_|refine X.F ?_|refine X.G ?_|refine X.H ?_|refine X.I ?_|fail)
      refine WL.call (l01Next_any hd4.src 200 (by omega)) ?_
      rintro _ w5 ⟨⟨y5, rfl, _, hy5⟩, hd5⟩
      have hy5 := hy5 (by omega)
      have hz5 := hd5.chg.size
      have hB5 := hB4.trans (hd5.chg.below (by omega) (Or.inl (Nat.le_refl _)))
      obtain ⟨k5, rfl⟩ : ∃ k : Nat, y5 = (k : Int) := ⟨y5.toNat, by omega⟩
      have hl5 := dec_len (v := k5) (by omega)
      refine WL.call (l01Dec_any k5 (by omega) w5) ?_
      rintro _ w6 ⟨rfl, hb6⟩
      have hz6 := hb6.size
      have hs6 := hd5.src.below hb6 hd5.src.lt
      have hB6 := hB5.trans (Below.mono hb6 (by omega))
      refine WL.step (o_cat (a := [50, 47, 52, 32, 48, 59, 45, 51, 47, 57, 32]) (by rfl) (by rfl) (by simp; omega) ?_)
      refine WL.step (o_cat (b := [47]) (by rfl) (by rfl) (by simp; omega) ?_)
      repeat' (first|refine X.O ?_|refine X.A ?_|refine X.B ?_|refine X.C ?_|refine X.D ?_|refine X.E ?_|refine X.F ?_|refine X.G ?_|refine X.H ?_|refine X.I ?_|fail)
      refine WL.step (o_lit (us := Ints [1, 7, 0, 10007]) (by rfl) (by rfl) rfl (by decide) Ints_one ?_)
      intro v7 w7 hown7 hb7 hz7 _
      have hs7 := hs6.below hb7 hs6.lt
      have hB7 := hB6.trans (Below.mono hb7 (by omega))
      refine WL.call (l01Pick_any hs7 (hown7.toIS (Nat.le_refl _)) hs6.lt (by decide)) ?_
      rintro _ w8 ⟨⟨y8, rfl, hy8⟩, hd8⟩
      have hz8 := hd8.chg.size
      have hB8 := hB7.trans (hd8.chg.below (by omega) (Or.inl (Nat.le_refl _)))
      have hy8b : 0 ≤ y8 ∧ y8 ≤ 10007 := by
        simp only [List.mem_cons, List.not_mem_nil, or_false] at hy8
        omega
      obtain ⟨k8, rfl⟩ : ∃ k : Nat, y8 = (k : Int) := ⟨y8.toNat, by omega⟩
      have hl8 := dec_len (v := k8) (by omega)
      refine WL.call (l01Dec_any k8 (by omega) w8) ?_
      rintro _ w9 ⟨rfl, hb9⟩
      have hs9 := hd8.src.below hb9 hd8.src.lt
      have hB9 := hB8.trans (Below.mono hb9 (by omega))
      refine WL.step (o_cat (by rfl) (by rfl) (by simp; omega) ?_)
      refine WL.step (o_cat (b := [124, 48, 32, 49]) (by rfl) (by rfl) (by simp; omega) ?_)
      repeat' (first|refine X.O ?_|refine X.A ?_|refine X.B ?_|refine X.C ?_|refine X.D ?_|refine X.E ?_|refine X.F ?_|refine X.G ?_|refine X.H ?_|refine X.I ?_|fail)
      exact ⟨_, ⟨rfl, rfl, trivial⟩, by simp; omega, hs9, hB9⟩
    · repeat' (first|refine X.O ?_|refine X.A ?_|refine X.B ?_|refine X.C ?_|refine X.D ?_|refine X.E ?_|refine X.F ?_|refine X.G ?_|refine X.H ?_|refine X.I ?_|fail)
      exact ⟨_, ⟨rfl, rfl, trivial⟩, htl, hd4.src, hB4⟩
  clear hs1 hs3 hd2 hd4 hc1 oT tX htl hB1 hB2 hB3 hB4 hb3
  rintro l' w5 ⟨t, hag, htl, hs5, hB5⟩
  refine WP.frame _ hag ?_
  clear hag
  obtain ⟨r0, g0, hr0, hG0⟩ := hs5.sg
  obtain ⟨n0, hL0⟩ := LI.start (g := g0) hr0 htl
  repeat' (first|refine X.O ?_|refine X.A ?_|refine X.B ?_|refine X.C ?_|refine X.D ?_|refine X.E ?_|refine X.F ?_|refine X.G ?_|refine X.H ?_|refine X.I ?_|fail)
  refine WP.loop (fun (q : Nat × Nat × Nat × List UInt8) => [(3, .pointer (some ⟨w.heap.size, 0, none⟩)), (4, St q.2.2.2)])
    (fun q y => SG w.heap.size q.1 q.2.1 y ∧ LI q.1 q.2.1 q.2.2.1 q.2.2.2.length ∧ Below w.heap.size w y) (fun q => muL q.1 q.2.2.1) (r0, g0, n0, t) ⟨rfl, rfl, trivial⟩ ⟨hG0, hL0, hB5⟩ ?_
  clear hG0 hL0 hB5 hs5 htl
  rintro ⟨r, g, n, t⟩ y ⟨hG, hL, hB⟩
  dsimp only at hG hL ⊢
  have hzy := hB.size
  have hlen := hL.len
  repeat' (first|refine X.O ?_|refine X.A ?_|refine X.B ?_|refine X.C ?_|refine X.D ?_|refine X.E ?_|refine X.F ?_|refine X.G ?_|refine X.H ?_|refine X.I ?_|fail)
  refine WL.call (l01Next_exact hG 3 (by omega) (by omega)) ?_
  rintro _ w6 ⟨⟨v6, rfl, hv0, hv1, hv⟩, hG6, hc6⟩
  have hB6 := hB.trans (hc6.below (by omega) (Or.inl (Nat.le_refl _)))
  have hz6 := hc6.size
  repeat' (first|refine X.O ?_|refine X.A ?_|refine X.B ?_|refine X.C ?_|refine X.D ?_|refine X.E ?_|refine X.F ?_|refine X.G ?_|refine X.H ?_|refine X.I ?_|fail)
  first|refine X.J (fun _ => ?_) (fun _ => ?_)|refine X.L (fun _ => ?_) (fun _ => ?_)|refine X.M (fun _ => ?_) (fun _ => ?_)|refine X.R (fun _ => ?_) (fun _ => ?_)|fail
  · rename_i h0
    repeat' (first|refine X.O ?_|refine X.A ?_|refine X.B ?_|refine X.C ?_|refine X.D ?_|refine X.E ?_|refine X.F ?_|refine X.G ?_|refine X.H ?_|refine X.I ?_|fail)
    refine WL.call (l01Damage_exact hG6 t (by omega)) ?_
    rintro _ w7 ⟨⟨t', rfl, htl'⟩, ⟨d, hd, hG7⟩, hc7⟩
    have hB7 := hB6.trans (hc7.below (by omega) (Or.inl (Nat.le_refl _)))
    obtain ⟨n', hL', hmu⟩ := hL.next htl' (fun hr => by have := hv hr rfl; omega) hd
    repeat' (first|refine X.O ?_|refine X.A ?_|refine X.B ?_|refine X.C ?_|refine X.D ?_|refine X.E ?_|refine X.F ?_|refine X.G ?_|refine X.H ?_|refine X.I ?_|fail)
    exact ⟨(r - 1 - d, runG d (lcgG g), n', t'), ⟨rfl, rfl, trivial⟩, ⟨hG7, hL', hB7⟩, hmu⟩
  · repeat' (first|refine X.O ?_|refine X.A ?_|refine X.B ?_|refine X.C ?_|refine X.D ?_|refine X.E ?_|refine X.F ?_|refine X.G ?_|refine X.H ?_|refine X.I ?_|fail)
    refine ⟨_, ret1 rfl (by rfl), ?_⟩
    exact ⟨⟨t, rfl, by omega⟩, hB6⟩
end Go.Proofs
