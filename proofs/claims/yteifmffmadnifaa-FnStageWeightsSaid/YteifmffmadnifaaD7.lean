/- The drawn trees: l09Tree, DrawStageWeights. -/
import Derived.Test.YteifmffmadnifaaD4
set_option maxRecDepth 8000
namespace Go.Proofs
open Go Go.Fw Go.RowKit Go.Rk
theorem l09Tree_any {sb : Nat} {w : World} (h : Srce sb w) (most : Nat) (hm1 : most ≤ 8) :
    Does Try.prog 107 [.pointer (some ⟨sb, 0, none⟩), .int .i64 (most : Nat)] w fun r w' => (∃ t, t.length ≤ 10 ∧ OwI 2 w.heap.size w'.heap.size w' r t) ∧ Drew sb w w' := by
  have hlt := h.lt
  refine Does.enter Try.func107 Try.ntmps107 rfl (by rfl) ?_
  repeat' (first | refine WL.step (o_s (by rfl) ?_) | refine WL.step (o_len (by rfl) ?_) | refine WL.step (o_add (by rfl) (by rfl) (by unfold InI; omega) ?_) | refine WL.step (o_sub (by rfl) (by rfl) (by unfold InI; omega) ?_) | refine WL.step (OpW.pass (by rfl) ?_) | refine WL.nil ?_ | refine thenN ?_ | refine WP.region ?_ | refine WP.seq ?_ | refine WP.block ?_ | refine thenR ?_ | refine thenX ?_ | refine blkN ?_ | refine blkHit ?_ | refine blkR ?_ | refine blkMiss (by rfl) ?_ | refine WP.ret ?_ | refine WP.exit ?_ | refine WP.skip ?_ | refine WP.label ?_ | refine WP.condT (by rfl) ?_ | refine WP.condF (by rfl) ?_ | fail)
  refine WL.step (o_lit (us := Ints [0]) (by rfl) (by rfl) rfl (by decide) Ints_one ?_)
  intro v1 w1 hown1 hbl1 hz1 _
  have hd1 : Drew sb w w1 := (Drew.refl h).thenBelow hbl1 hlt
  repeat' (first | refine WL.step (o_s (by rfl) ?_) | refine WL.step (o_len (by rfl) ?_) | refine WL.step (o_add (by rfl) (by rfl) (by unfold InI; omega) ?_) | refine WL.step (o_sub (by rfl) (by rfl) (by unfold InI; omega) ?_) | refine WL.step (OpW.pass (by rfl) ?_) | refine WL.nil ?_ | refine thenN ?_ | refine WP.region ?_ | refine WP.seq ?_ | refine WP.block ?_ | refine thenR ?_ | refine thenX ?_ | refine blkN ?_ | refine blkHit ?_ | refine blkR ?_ | refine blkMiss (by rfl) ?_ | refine WP.ret ?_ | refine WP.exit ?_ | refine WP.skip ?_ | refine WP.label ?_ | refine WP.condT (by rfl) ?_ | refine WP.condF (by rfl) ?_ | fail)
  refine WL.call (l01Next_any hd1.src (most : Nat) (by omega)) ?_
  rintro _ w2 ⟨⟨y, rfl, hy0, hy1⟩, hdr2⟩
  have hz2 := hdr2.chg.size
  have hd2 := hd1.trans hdr2
  obtain ⟨n, hn⟩ : ∃ n : Nat, y = (n : Int) := ⟨y.toNat, by omega⟩
  have hn8 : n ≤ 8 := by omega
  subst hn
  have o2 : OwI 2 w.heap.size w2.heap.size w2 v1 [0] := ((⟨hown1, fun k hk => (hown1.block k hk).2, Nat.le_refl _⟩ : OwI 2 w.heap.size w1.heap.size w1 v1 [0]).chg hdr2.chg (by omega)).wide (Nat.le_refl _) hz2 (Nat.le_refl _)
  repeat' (first | refine WL.step (o_s (by rfl) ?_) | refine WL.step (o_len (by rfl) ?_) | refine WL.step (o_add (by rfl) (by rfl) (by unfold InI; omega) ?_) | refine WL.step (o_sub (by rfl) (by rfl) (by unfold InI; omega) ?_) | refine WL.step (OpW.pass (by rfl) ?_) | refine WL.nil ?_ | refine thenN ?_ | refine WP.region ?_ | refine WP.seq ?_ | refine WP.block ?_ | refine thenR ?_ | refine thenX ?_ | refine blkN ?_ | refine blkHit ?_ | refine blkR ?_ | refine blkMiss (by rfl) ?_ | refine WP.ret ?_ | refine WP.exit ?_ | refine WP.skip ?_ | refine WP.label ?_ | refine WP.condT (by rfl) ?_ | refine WP.condF (by rfl) ?_ | fail)
  refine WP.loop (fun (s : Nat × Value × List Int) => [(0, .pointer (some ⟨sb, 0, none⟩)), (5, s.2.1), (6, .int .i64 (s.1 : Nat))])
    (fun s w3 => s.1 + s.2.2.length = n + 1 ∧ 1 ≤ s.2.2.length ∧ (∀ v ∈ s.2.2, 0 ≤ v ∧ v ≤ s.2.2.length) ∧ OwI 2 w.heap.size w3.heap.size w3 s.2.1 s.2.2 ∧ Drew sb w w3)
    (fun s => s.1) (n, v1, [0]) ⟨rfl, rfl, rfl, trivial⟩ ⟨rfl, by simp, by intro v hv; rw [List.mem_singleton.1 hv]; simp, o2, hd2⟩ ?_
  rintro ⟨m, vt, t⟩ w3 ⟨hmt, ht1, htb, o3, hd3⟩
  dsimp only at hmt ht1 htb o3 ⊢
  have hz3 := hd3.chg.size
  obtain ⟨at', ct, hvt, _⟩ := o3.own.shape
  rw [Ints_length] at hvt
  have hlast : t.length - 1 < t.length := by omega
  have hlb := htb _ (List.getElem_mem hlast)
  repeat' (first | refine WL.step (o_s (by rfl) ?_) | refine WL.step (o_len (by rfl) ?_) | refine WL.step (o_add (by rfl) (by rfl) (by unfold InI; omega) ?_) | refine WL.step (o_sub (by rfl) (by rfl) (by unfold InI; omega) ?_) | refine WL.step (OpW.pass (by rfl) ?_) | refine WL.nil ?_ | refine thenN ?_ | refine WP.region ?_ | refine WP.seq ?_ | refine WP.block ?_ | refine thenR ?_ | refine thenX ?_ | refine blkN ?_ | refine blkHit ?_ | refine blkR ?_ | refine blkMiss (by rfl) ?_ | refine WP.ret ?_ | refine WP.exit ?_ | refine WP.skip ?_ | refine WP.label ?_ | refine WP.condT (by rfl) ?_ | refine WP.condF (by rfl) ?_ | fail)
  first | refine WP.condD (by rfl) (fun _ => ?_) (fun _ => ?_) | refine WP.condND (by rfl) (fun _ => ?_) (fun _ => ?_) | refine WP.condN (by rfl) (fun _ => ?_) (fun _ => ?_) | refine WP.cond (by rfl) (fun _ => ?_) (fun _ => ?_) | fail
  · rename_i hgt
    subst hvt
    repeat' (first | refine WL.step (o_s (by rfl) ?_) | refine WL.step (o_len (by rfl) ?_) | refine WL.step (o_add (by rfl) (by rfl) (by unfold InI; omega) ?_) | refine WL.step (o_sub (by rfl) (by rfl) (by unfold InI; omega) ?_) | refine WL.step (OpW.pass (by rfl) ?_) | refine WL.nil ?_ | refine thenN ?_ | refine WP.region ?_ | refine WP.seq ?_ | refine WP.block ?_ | refine thenR ?_ | refine thenX ?_ | refine blkN ?_ | refine blkHit ?_ | refine blkR ?_ | refine blkMiss (by rfl) ?_ | refine WP.ret ?_ | refine WP.exit ?_ | refine WP.skip ?_ | refine WP.label ?_ | refine WP.condT (by rfl) ?_ | refine WP.condF (by rfl) ?_ | fail)
    refine WL.ixload (j := t.length - 1) o3.rd (List.getElem?_eq_getElem hlast) ?_
    rintro p1 _ rfl
    repeat' (first | refine WL.step (o_s (by rfl) ?_) | refine WL.step (o_len (by rfl) ?_) | refine WL.step (o_add (by rfl) (by rfl) (by unfold InI; omega) ?_) | refine WL.step (o_sub (by rfl) (by rfl) (by unfold InI; omega) ?_) | refine WL.step (OpW.pass (by rfl) ?_) | refine WL.nil ?_ | refine thenN ?_ | refine WP.region ?_ | refine WP.seq ?_ | refine WP.block ?_ | refine thenR ?_ | refine thenX ?_ | refine blkN ?_ | refine blkHit ?_ | refine blkR ?_ | refine blkMiss (by rfl) ?_ | refine WP.ret ?_ | refine WP.exit ?_ | refine WP.skip ?_ | refine WP.label ?_ | refine WP.condT (by rfl) ?_ | refine WP.condF (by rfl) ?_ | fail)
    refine WL.call (l01Next_any hd3.src (t[t.length - 1] + 1) (by omega)) ?_
    rintro _ w4 ⟨⟨z, rfl, _, hz⟩, hdr4⟩
    have hz := hz (by omega)
    have hz4 := hdr4.chg.size
    have o4 := o3.chg hdr4.chg (by omega)
    repeat' (first | refine WL.step (o_s (by rfl) ?_) | refine WL.step (o_len (by rfl) ?_) | refine WL.step (o_add (by rfl) (by rfl) (by unfold InI; omega) ?_) | refine WL.step (o_sub (by rfl) (by rfl) (by unfold InI; omega) ?_) | refine WL.step (OpW.pass (by rfl) ?_) | refine WL.nil ?_ | refine thenN ?_ | refine WP.region ?_ | refine WP.seq ?_ | refine WP.block ?_ | refine thenR ?_ | refine thenX ?_ | refine blkN ?_ | refine blkHit ?_ | refine blkR ?_ | refine blkMiss (by rfl) ?_ | refine WP.ret ?_ | refine WP.exit ?_ | refine WP.skip ?_ | refine WP.label ?_ | refine WP.condT (by rfl) ?_ | refine WP.condF (by rfl) ?_ | fail)
    refine o_append1 (u := .int .i64 (1 + z)) (fun _ => by rfl) (by rfl) o4.own rfl (by simp [Ints, maxLen]; omega) (by simp [Ints]; omega) (by omega) ?_
    intro p2 v5 w5 hown5 hbl5 _ hz5 _
    repeat' (first | refine WL.step (o_s (by rfl) ?_) | refine WL.step (o_len (by rfl) ?_) | refine WL.step (o_add (by rfl) (by rfl) (by unfold InI; omega) ?_) | refine WL.step (o_sub (by rfl) (by rfl) (by unfold InI; omega) ?_) | refine WL.step (OpW.pass (by rfl) ?_) | refine WL.nil ?_ | refine thenN ?_ | refine WP.region ?_ | refine WP.seq ?_ | refine WP.block ?_ | refine thenR ?_ | refine thenX ?_ | refine blkN ?_ | refine blkHit ?_ | refine blkR ?_ | refine blkMiss (by rfl) ?_ | refine WP.ret ?_ | refine WP.exit ?_ | refine WP.skip ?_ | refine WP.label ?_ | refine WP.condT (by rfl) ?_ | refine WP.condF (by rfl) ?_ | fail)
    refine ⟨(m - 1, v5, t ++ [1 + z]), ⟨rfl, rfl, (by first | rfl | (show some (Value.int .i64 _) = some (Value.int .i64 _); refine congrArg some (congrArg (Value.int IntKind.i64) ?_); omega)), trivial⟩, ⟨by simp; omega, by simp, ?_, ⟨by dsimp only; rw [Ints_append]; exact hown5, fun k hk => (hown5.block k hk).2, Nat.le_refl _⟩, (hd3.trans hdr4).thenBelow (Below.mono hbl5 (by omega)) hlt⟩, by dsimp only; omega⟩
    intro v hv
    rw [List.length_append, List.length_singleton]
    rcases List.mem_append.1 hv with hv | hv
    · have := htb v hv; omega
    · rw [List.mem_singleton.1 hv]; omega
  rename_i hle
  have hm0 : m = 0 := by omega
  subst hm0
  repeat' (first | refine WL.step (o_s (by rfl) ?_) | refine WL.step (o_len (by rfl) ?_) | refine WL.step (o_add (by rfl) (by rfl) (by unfold InI; omega) ?_) | refine WL.step (o_sub (by rfl) (by rfl) (by unfold InI; omega) ?_) | refine WL.step (OpW.pass (by rfl) ?_) | refine WL.nil ?_ | refine thenN ?_ | refine WP.region ?_ | refine WP.seq ?_ | refine WP.block ?_ | refine thenR ?_ | refine thenX ?_ | refine blkN ?_ | refine blkHit ?_ | refine blkR ?_ | refine blkMiss (by rfl) ?_ | refine WP.ret ?_ | refine WP.exit ?_ | refine WP.skip ?_ | refine WP.label ?_ | refine WP.condT (by rfl) ?_ | refine WP.condF (by rfl) ?_ | fail)
  refine WL.call (l01Next_any hd3.src 30 (by omega)) ?_
  rintro _ w4 ⟨⟨z, rfl, _, _⟩, hdr4⟩
  have hz4 := hdr4.chg.size
  have o4 := (o3.chg hdr4.chg (by omega)).wide (Nat.le_refl _) hz4 (Nat.le_refl _)
  have hd4 := hd3.trans hdr4
  repeat' (first | refine WL.step (o_s (by rfl) ?_) | refine WL.step (o_len (by rfl) ?_) | refine WL.step (o_add (by rfl) (by rfl) (by unfold InI; omega) ?_) | refine WL.step (o_sub (by rfl) (by rfl) (by unfold InI; omega) ?_) | refine WL.step (OpW.pass (by rfl) ?_) | refine WL.nil ?_ | refine thenN ?_ | refine WP.region ?_ | refine WP.seq ?_ | refine WP.block ?_ | refine thenR ?_ | refine thenX ?_ | refine blkN ?_ | refine blkHit ?_ | refine blkR ?_ | refine blkMiss (by rfl) ?_ | refine WP.ret ?_ | refine WP.exit ?_ | refine WP.skip ?_ | refine WP.label ?_ | refine WP.condT (by rfl) ?_ | refine WP.condF (by rfl) ?_ | fail)
  first | refine WP.condD (by rfl) (fun _ => ?_) (fun _ => ?_) | refine WP.condND (by rfl) (fun _ => ?_) (fun _ => ?_) | refine WP.condN (by rfl) (fun _ => ?_) (fun _ => ?_) | refine WP.cond (by rfl) (fun _ => ?_) (fun _ => ?_) | fail
  · subst hvt
    repeat' (first | refine WL.step (o_s (by rfl) ?_) | refine WL.step (o_len (by rfl) ?_) | refine WL.step (o_add (by rfl) (by rfl) (by unfold InI; omega) ?_) | refine WL.step (o_sub (by rfl) (by rfl) (by unfold InI; omega) ?_) | refine WL.step (OpW.pass (by rfl) ?_) | refine WL.nil ?_ | refine thenN ?_ | refine WP.region ?_ | refine WP.seq ?_ | refine WP.block ?_ | refine thenR ?_ | refine thenX ?_ | refine blkN ?_ | refine blkHit ?_ | refine blkR ?_ | refine blkMiss (by rfl) ?_ | refine WP.ret ?_ | refine WP.exit ?_ | refine WP.skip ?_ | refine WP.label ?_ | refine WP.condT (by rfl) ?_ | refine WP.condF (by rfl) ?_ | fail)
    refine WL.ixload (j := t.length - 1) o4.rd (List.getElem?_eq_getElem hlast) ?_
    rintro p1 _ rfl
    repeat' (first | refine WL.step (o_s (by rfl) ?_) | refine WL.step (o_len (by rfl) ?_) | refine WL.step (o_add (by rfl) (by rfl) (by unfold InI; omega) ?_) | refine WL.step (o_sub (by rfl) (by rfl) (by unfold InI; omega) ?_) | refine WL.step (OpW.pass (by rfl) ?_) | refine WL.nil ?_ | refine thenN ?_ | refine WP.region ?_ | refine WP.seq ?_ | refine WP.block ?_ | refine thenR ?_ | refine thenX ?_ | refine blkN ?_ | refine blkHit ?_ | refine blkR ?_ | refine blkMiss (by rfl) ?_ | refine WP.ret ?_ | refine WP.exit ?_ | refine WP.skip ?_ | refine WP.label ?_ | refine WP.condT (by rfl) ?_ | refine WP.condF (by rfl) ?_ | fail)
    refine WL.step (o_lit (us := Ints [0, t[t.length - 1] + 2, -1]) (by rfl) (by rfl) rfl (by decide) Ints_one ?_)
    intro v5 w5 hown5 hbl5 hz5 _
    have hd5 := hd4.thenBelow (Below.mono hbl5 (by omega)) hlt
    refine WL.call (l01Pick_any (xs := [0, t[t.length - 1] + 2, -1]) hd5.src (hown5.toIS (Nat.le_refl _)) (by omega) (by simp)) ?_
    rintro _ w6 ⟨⟨y, rfl, _⟩, hdr6⟩
    have hz6 := hdr6.chg.size
    have o6 := (o4.chg (Chg.of_below hbl5) (by omega)).chg hdr6.chg (by omega)
    refine o_append1 (u := .int .i64 y) (fun _ => by rfl) (by rfl) o6.own rfl (by simp [Ints, maxLen]; omega) (by simp [Ints]; omega) (by omega) ?_
    intro p2 v7 w7 hown7 hbl7 _ hz7 _
    repeat' (first | refine WL.step (o_s (by rfl) ?_) | refine WL.step (o_len (by rfl) ?_) | refine WL.step (o_add (by rfl) (by rfl) (by unfold InI; omega) ?_) | refine WL.step (o_sub (by rfl) (by rfl) (by unfold InI; omega) ?_) | refine WL.step (OpW.pass (by rfl) ?_) | refine WL.nil ?_ | refine thenN ?_ | refine WP.region ?_ | refine WP.seq ?_ | refine WP.block ?_ | refine thenR ?_ | refine thenX ?_ | refine blkN ?_ | refine blkHit ?_ | refine blkR ?_ | refine blkMiss (by rfl) ?_ | refine WP.ret ?_ | refine WP.exit ?_ | refine WP.skip ?_ | refine WP.label ?_ | refine WP.condT (by rfl) ?_ | refine WP.condF (by rfl) ?_ | fail)
    refine ⟨_, ret1 rfl (by rfl), ?_⟩
    exact ⟨⟨t ++ [y], by simp; omega, by rw [Ints_append]; exact hown7, fun k hk => (hown7.block k hk).2, Nat.le_refl _⟩, (hd5.trans hdr6).thenBelow (Below.mono hbl7 (by omega)) hlt⟩
  · repeat' (first | refine WL.step (o_s (by rfl) ?_) | refine WL.step (o_len (by rfl) ?_) | refine WL.step (o_add (by rfl) (by rfl) (by unfold InI; omega) ?_) | refine WL.step (o_sub (by rfl) (by rfl) (by unfold InI; omega) ?_) | refine WL.step (OpW.pass (by rfl) ?_) | refine WL.nil ?_ | refine thenN ?_ | refine WP.region ?_ | refine WP.seq ?_ | refine WP.block ?_ | refine thenR ?_ | refine thenX ?_ | refine blkN ?_ | refine blkHit ?_ | refine blkR ?_ | refine blkMiss (by rfl) ?_ | refine WP.ret ?_ | refine WP.exit ?_ | refine WP.skip ?_ | refine WP.label ?_ | refine WP.condT (by rfl) ?_ | refine WP.condF (by rfl) ?_ | fail)
    refine ⟨_, ret1 rfl (by rfl), ?_⟩
    exact ⟨⟨t, by omega, o4⟩, hd4⟩
theorem DrawStageWeights_any {lo hi : Nat} {w : World} {v : Value} {bs : List Int} (h : IU lo hi w v bs) (hn : bs.length ≤ 4096) :
    Does Try.prog 53 [v] w fun r w' => (∃ x t va vt m, r = .tuple #[va, vt] ∧ Sm x ∧ t.length ≤ 10 ∧ IT (w.heap.size + 1) m w' va x ∧ IS m w'.heap.size w' vt t ∧ w.heap.size + 1 ≤ m) ∧ Chg 0 0 w w' := by
  refine Does.enter Try.func53 Try.ntmps53 rfl (by rfl) ?_
  repeat' (first | refine WL.step (o_s (by rfl) ?_) | refine WL.step (o_len (by rfl) ?_) | refine WL.step (o_add (by rfl) (by rfl) (by unfold InI; omega) ?_) | refine WL.step (o_sub (by rfl) (by rfl) (by unfold InI; omega) ?_) | refine WL.step (OpW.pass (by rfl) ?_) | refine WL.nil ?_ | refine thenN ?_ | refine WP.region ?_ | refine WP.seq ?_ | refine WP.block ?_ | refine thenR ?_ | refine thenX ?_ | refine blkN ?_ | refine blkHit ?_ | refine blkR ?_ | refine blkMiss (by rfl) ?_ | refine WP.ret ?_ | refine WP.exit ?_ | refine WP.skip ?_ | refine WP.label ?_ | refine WP.condT (by rfl) ?_ | refine WP.condF (by rfl) ?_ | fail)
  refine WL.step (o_alloc ?_)
  intro w1 hb1 hbl1 hz1
  repeat' (first | refine WL.step (o_s (by rfl) ?_) | refine WL.step (o_len (by rfl) ?_) | refine WL.step (o_add (by rfl) (by rfl) (by unfold InI; omega) ?_) | refine WL.step (o_sub (by rfl) (by rfl) (by unfold InI; omega) ?_) | refine WL.step (OpW.pass (by rfl) ?_) | refine WL.nil ?_ | refine thenN ?_ | refine WP.region ?_ | refine WP.seq ?_ | refine WP.block ?_ | refine thenR ?_ | refine thenX ?_ | refine blkN ?_ | refine blkHit ?_ | refine blkR ?_ | refine blkMiss (by rfl) ?_ | refine WP.ret ?_ | refine WP.exit ?_ | refine WP.skip ?_ | refine WP.label ?_ | refine WP.condT (by rfl) ?_ | refine WP.condF (by rfl) ?_ | fail)
  refine WL.call (l01From_any (h.below RU.stable hbl1 h.hi_le) hn) ?_
  rintro _ w2 ⟨rfl, hs2, hc2⟩
  have hz2 := hs2.lt
  repeat' (first | refine WL.step (o_s (by rfl) ?_) | refine WL.step (o_len (by rfl) ?_) | refine WL.step (o_add (by rfl) (by rfl) (by unfold InI; omega) ?_) | refine WL.step (o_sub (by rfl) (by rfl) (by unfold InI; omega) ?_) | refine WL.step (OpW.pass (by rfl) ?_) | refine WL.nil ?_ | refine thenN ?_ | refine WP.region ?_ | refine WP.seq ?_ | refine WP.block ?_ | refine thenR ?_ | refine thenX ?_ | refine blkN ?_ | refine blkHit ?_ | refine blkR ?_ | refine blkMiss (by rfl) ?_ | refine WP.ret ?_ | refine WP.exit ?_ | refine WP.skip ?_ | refine WP.label ?_ | refine WP.condT (by rfl) ?_ | refine WP.condF (by rfl) ?_ | fail)
  refine WL.call (l09Spoil_any hs2 6 (by omega) (by omega)) ?_
  rintro v3 w3 ⟨⟨x, hsm, hT⟩, hd3⟩
  have hz3 := hd3.chg.size
  repeat' (first | refine WL.step (o_s (by rfl) ?_) | refine WL.step (o_len (by rfl) ?_) | refine WL.step (o_add (by rfl) (by rfl) (by unfold InI; omega) ?_) | refine WL.step (o_sub (by rfl) (by rfl) (by unfold InI; omega) ?_) | refine WL.step (OpW.pass (by rfl) ?_) | refine WL.nil ?_ | refine thenN ?_ | refine WP.region ?_ | refine WP.seq ?_ | refine WP.block ?_ | refine thenR ?_ | refine thenX ?_ | refine blkN ?_ | refine blkHit ?_ | refine blkR ?_ | refine blkMiss (by rfl) ?_ | refine WP.ret ?_ | refine WP.exit ?_ | refine WP.skip ?_ | refine WP.label ?_ | refine WP.condT (by rfl) ?_ | refine WP.condF (by rfl) ?_ | fail)
  refine WL.call (l09Tree_any hd3.src 8 (by omega)) ?_
  rintro v4 w4 ⟨⟨t, htl, ho4⟩, hd4⟩
  have hz4 := hd4.chg.size
  have hd24 := hd3.trans hd4
  have hT4 := hT.chg hd4.chg (by omega)
  have hc4 : Below w.heap.size w w4 := ⟨by rw [hd24.chg.os, hc2.os, hbl1.os], by rw [hd24.chg.tape, hc2.tape, hbl1.tape], by rw [hd24.chg.output, hc2.output, hbl1.output], by omega, fun k hk => by rw [hd24.chg.block k (by omega) (by omega), hc2.block k (by omega) (by omega), hbl1.block k hk]⟩
  have hb4 : Blk w4 w.heap.size _ _ := (hb1.chg0 hc2).chg hd24.chg (by omega)
  obtain ⟨a, n, c, a', n', c', rfl⟩ := hT4.cells
  refine WL.step (o_storeS (vs := [.slice a n c, .slice a' n' c']) (by rfl) (by rfl) hb4 (by rfl) (by rfl) two_cells ?_)
  intro w5 hb5 hbut5
  have hz5 := hbut5.size
  repeat' (first | refine WL.step (o_s (by rfl) ?_) | refine WL.step (o_len (by rfl) ?_) | refine WL.step (o_add (by rfl) (by rfl) (by unfold InI; omega) ?_) | refine WL.step (o_sub (by rfl) (by rfl) (by unfold InI; omega) ?_) | refine WL.step (OpW.pass (by rfl) ?_) | refine WL.nil ?_ | refine thenN ?_ | refine WP.region ?_ | refine WP.seq ?_ | refine WP.block ?_ | refine thenR ?_ | refine thenX ?_ | refine blkN ?_ | refine blkHit ?_ | refine blkR ?_ | refine blkMiss (by rfl) ?_ | refine WP.ret ?_ | refine WP.exit ?_ | refine WP.skip ?_ | refine WP.label ?_ | refine WP.condT (by rfl) ?_ | refine WP.condF (by rfl) ?_ | fail)
  refine ⟨_, retS1 rfl (by rfl) hb5 (by rfl) (by rfl), ⟨x, t, _, _, w3.heap.size, rfl, hsm, htl, ?_, ?_, by omega⟩, ?_⟩
  · exact (hT4.chg hbut5.chg (by omega)).wide (by omega) (Nat.le_refl _) (by omega)
  · exact SL.wide RI.stable (ho4.chg hbut5.chg (by omega)).rd (Nat.le_refl _) (by omega) (Nat.le_refl _)
  · exact Chg.of_below (hc4.trans (hbut5.below (Nat.le_refl _)))
end Go.Proofs
