/- Lines of numbers, read: l09Read and readNumbers. -/
import Derived.Test.YthepgmajeljdhaaGreatDoorZF
set_option maxRecDepth 8000
namespace Go.Rk
open Go.Fw Go.Proofs
theorem split1_count (b : UInt8) : ∀ s : List UInt8, (split1 b s).length = s.count b + 1
  | [] => rfl
  | c :: r => by
    have ih := split1_count b r
    have hp := List.length_pos_iff.2 (split1_ne b r)
    unfold split1
    by_cases h : c = b
    · subst h
      rw [if_pos rfl, List.count_cons_self, List.length_cons, ih]
    · rw [if_neg h, List.count_cons_of_ne (by simpa using h), List.length_cons, List.length_tail, ih]
      omega
end Go.Rk
namespace Go.Proofs
open Go Go.Fw Go.RowKit Go.Rk
theorem rdStr {us : List Value} {lo : Nat} {w : World} {v : Value} (h : Fw.Own lo 9 w v us) : SL (fun _ _ _ u x => u = x) lo w.heap.size w v us :=
  h.toSL rfl (Nat.le_refl _) (fun k hk => (h.block k hk).2) (Nat.le_refl _) (fun i u x hu hx => by rw [hu] at hx; simpa using hx)
theorem take_snoc {α β : Type} (f : α → β) {xs : List α} {i : Nat} (h : i < xs.length) : (xs.take (i + 1)).map f = (xs.take i).map f ++ [f xs[i]] := by
  rw [List.take_succ_eq_append_getElem h, List.map_append]; rfl
theorem Split_any (s : List UInt8) (b : UInt8) (hs : s.length ≤ 4000000000) {w : World} (h : ML w) : Does Tryz.prog 36 [St s, St [b]] w fun r w' => Fw.Own w.heap.size 9 w' r ((split1 b s).map St) ∧ Below w.heap.size w w' := by
  obtain ⟨m, hm⟩ := h
  refine Calls.mono (Tryz.strings_Split ⟨s.toArray⟩ ⟨[b].toArray⟩ m w (by simp [ByteArray.size]; omega) hm (by simp [ByteArray.size])) ?_
  rintro e w' ⟨rfl, rfl⟩
  refine ⟨_, rfl, ?_, below_alloc _ _⟩
  have e1 := splitB_one b s
  have e2 : Lib.countB ⟨s.toArray⟩ ⟨[b].toArray⟩ = s.count b := Lib.count_one b s
  have e3 := split1_count b s
  have e4 : (Lib.splitB ⟨[b].toArray⟩ 0 (Lib.countB ⟨s.toArray⟩ ⟨[b].toArray⟩) ⟨s.toArray⟩).map Value.string = (split1 b s).map St := by
    rw [show (⟨[b].toArray⟩ : ByteArray) = ⟨#[b]⟩ from rfl, e1, List.map_map]; rfl
  rw [e4, e2, ← e3]
  have hcl := split1_length b s
  have := World.ownsRow_lit (base := w.heap.size) (e := 9) (size := 1) w ((split1 b s).map St).toArray (split1 b s).length (Nat.le_refl _) (by unfold maxLen; omega) (by simp)
  unfold Fw.Own
  rw [List.length_map]
  exact this
theorem l09Read_any (s : List UInt8) (hs : s.length ≤ 4000000000) (w : World) : Does Tryz.prog 44 [St s] w fun r w' => ∃ v, r = .tuple #[v, .bool (readL s).2] ∧ Fw.Own w.heap.size 2 w' v (Ints (readL s).1) ∧ Below w.heap.size w w' := by
  refine Does.enter Tryz.func44 Tryz.ntmps44 rfl (by rfl) ?_
  repeat' (first|refine X.O ?_|refine X.A ?_|refine X.B ?_|refine X.C ?_|refine X.D ?_|refine X.E ?_|refine X.F ?_|refine X.G ?_|refine X.H ?_|refine X.I ?_|fail)
  refine WL.call (l01Split_any s 32 hs w) ?_
  rintro v1 w1 ⟨hown1, hb1⟩
  have hz1 := hb1.size
  have hbad := fun (i : Nat) (h : i < (split1 32 s).length) => readL_bad (s := s) h
  have hgood := readL_good (s := s)
  have hlen := split1_length 32 s
  have hpart := fun (p : List UInt8) (hp : p ∈ split1 32 s) => split1_part hp
  obtain ⟨ps, hps⟩ : ∃ ps, split1 32 s = ps := ⟨_, rfl⟩
  rw [hps] at hown1 hbad hgood hlen hpart
  obtain ⟨a1, c1, hv1, _⟩ := hown1.shape
  rw [List.length_map] at hv1
  subst hv1
  have hR1 := rdStr hown1
  refine WL.step (o_lit (us := []) (by rfl) (by rfl) rfl (by decide) one0 ?_)
  intro v2 w2 hown2 hb2 hz2 _
  repeat' (first|refine X.O ?_|refine X.A ?_|refine X.B ?_|refine X.C ?_|refine X.D ?_|refine X.E ?_|refine X.F ?_|refine X.G ?_|refine X.H ?_|refine X.I ?_|fail)
  refine WP.loop (fun (q : Nat × Value) => [(4, .slice a1 ps.length c1), (5, q.2), (6, .int .i64 (q.1 : Nat))])
    (fun q y => q.1 ≤ ps.length ∧ (∀ j (h : j < ps.length), j < q.1 → goodN ps[j] = true) ∧ Fw.Own w1.heap.size 2 y q.2 (Ints ((ps.take q.1).map numN)) ∧ Below w1.heap.size w1 y)
    (fun q => ps.length - q.1) (0, v2) ⟨rfl, rfl, rfl, trivial⟩ ⟨Nat.zero_le _, fun j h hj => by dsimp only at hj; omega, by simpa [Ints] using hown2, hb2⟩ ?_
  clear hown2 hb2
  rintro ⟨i, vo⟩ y ⟨hi, hg, hown, hbl⟩
  dsimp only at hi hg hown ⊢
  have hzy := hbl.size
  repeat' (first|refine X.O ?_|refine X.A ?_|refine X.B ?_|refine X.C ?_|refine X.D ?_|refine X.E ?_|refine X.F ?_|refine X.G ?_|refine X.H ?_|refine X.I ?_|fail)
  first|refine X.J (fun _ => ?_) (fun _ => ?_)|refine X.L (fun _ => ?_) (fun _ => ?_)|refine X.M (fun _ => ?_) (fun _ => ?_)|refine X.R (fun _ => ?_) (fun _ => ?_)|fail
  · rename_i hlt
    have hli : i < ps.length := by omega
    have hpl := hpart _ (List.getElem_mem hli)
    repeat' (first|refine X.O ?_|refine X.A ?_|refine X.B ?_|refine X.C ?_|refine X.D ?_|refine X.E ?_|refine X.F ?_|refine X.G ?_|refine X.H ?_|refine X.I ?_|fail)
    refine WL.ixload (j := i) (a := St ps[i]) (hR1.below ⟨fun _ _ _ _ _ _ _ _ h => h, fun _ _ _ _ _ _ _ _ _ _ h => h⟩ hbl (Nat.le_refl _)) (by rw [List.getElem?_map, List.getElem?_eq_getElem hli]; rfl) ?_
    intro p u hu
    rw [show u = St ps[i] from hu]
    clear hu u
    refine WL.call (sParseNumber_any ps[i] (by omega) y) ?_
    rintro _ w3 ⟨rfl, hb3⟩
    have hz3 := hb3.size
    repeat' (first|refine X.O ?_|refine X.A ?_|refine X.B ?_|refine X.C ?_|refine X.D ?_|refine X.E ?_|refine X.F ?_|refine X.G ?_|refine X.H ?_|refine X.I ?_|fail)
    first|refine X.J (fun _ => ?_) (fun _ => ?_)|refine X.L (fun _ => ?_) (fun _ => ?_)|refine X.M (fun _ => ?_) (fun _ => ?_)|refine X.R (fun _ => ?_) (fun _ => ?_)|fail
    · rename_i hc
      have e := hbad i hli (by unfold goodN; exact decide_eq_false hc)
      rw [e]
      repeat' (first|refine X.O ?_|refine X.A ?_|refine X.B ?_|refine X.C ?_|refine X.D ?_|refine X.E ?_|refine X.F ?_|refine X.G ?_|refine X.H ?_|refine X.I ?_|fail)
      refine ⟨_, ret2 rfl (by rfl) (by rfl), _, rfl, Own.nil _ _ _, ?_⟩
      exact (hb1.trans (Below.mono hbl hz1)).trans (Below.mono hb3 (by omega))
    · rename_i hc
      have hgi : goodN ps[i] = true := by unfold goodN; exact decide_eq_true (by omega)
      repeat' (first|refine X.O ?_|refine X.A ?_|refine X.B ?_|refine X.C ?_|refine X.D ?_|refine X.E ?_|refine X.F ?_|refine X.G ?_|refine X.H ?_|refine X.I ?_|fail)
      refine o_append1 (u := .int .i64 (numN ps[i])) (fun _ => by rfl) (by rfl) (hown.below hb3 (by omega)) rfl (by simp [Ints, maxLen]; omega) (by simp [Ints]; omega) (by omega) ?_
      intro p5 v5 w5 hown5 hb5 _ _ _
      repeat' (first|refine X.O ?_|refine X.A ?_|refine X.B ?_|refine X.C ?_|refine X.D ?_|refine X.E ?_|refine X.F ?_|refine X.G ?_|refine X.H ?_|refine X.I ?_|fail)
      refine ⟨(i + 1, v5), ⟨rfl, rfl, X.T (by dsimp only; omega), trivial⟩, ⟨by dsimp only; omega, fun j h hj => ?_, ?_, (hbl.trans (Below.mono hb3 hzy)).trans hb5⟩, by dsimp only; omega⟩
      · dsimp only at hj
        by_cases e : j = i
        · subst e; exact hgi
        · exact hg j h (by omega)
      · dsimp only
        rw [take_snoc numN hli]
        simpa [Ints] using hown5
  · rename_i hge
    have e := hgood fun j h => hg j h (by omega)
    rw [e]
    repeat' (first|refine X.O ?_|refine X.A ?_|refine X.B ?_|refine X.C ?_|refine X.D ?_|refine X.E ?_|refine X.F ?_|refine X.G ?_|refine X.H ?_|refine X.I ?_|fail)
    refine ⟨_, ret2 rfl (by rfl) (by rfl), _, rfl, ?_, hb1.trans (Below.mono hbl hz1)⟩
    rw [List.take_of_length_le (by omega)] at hown
    exact hown.lower hz1
theorem readNumbers_any (s : List UInt8) (hs : s.length ≤ 4000000000) {w : World} (hS : SW w) : Does Tryz.prog 35 [St s] w fun r w' => ∃ v, r = .tuple #[v, .bool (readL s).2] ∧ Fw.Own w.heap.size 2 w' v (Ints (readL s).1) ∧ Below w.heap.size w w' := by
  refine Does.enter Tryz.func35 Tryz.ntmps35 rfl (by rfl) ?_
  repeat' (first|refine X.O ?_|refine X.A ?_|refine X.B ?_|refine X.C ?_|refine X.D ?_|refine X.E ?_|refine X.F ?_|refine X.G ?_|refine X.H ?_|refine X.I ?_|fail)
  refine WL.step (o_lit (us := []) (by rfl) (by rfl) rfl (by decide) one0 ?_)
  intro v2 w2 hown2 hb2 hz2 _
  repeat' (first|refine X.O ?_|refine X.A ?_|refine X.B ?_|refine X.C ?_|refine X.D ?_|refine X.E ?_|refine X.F ?_|refine X.G ?_|refine X.H ?_|refine X.I ?_|fail)
  refine WL.call (Split_any s 32 hs (hS.below hb2).ml) ?_
  rintro v1 w1 ⟨hown1, hb1⟩
  have hz1 := hb1.size
  have hbad := fun (i : Nat) (h : i < (split1 32 s).length) => readL_bad (s := s) h
  have hgood := readL_good (s := s)
  have hlen := split1_length 32 s
  have hpart := fun (p : List UInt8) (hp : p ∈ split1 32 s) => split1_part hp
  obtain ⟨ps, hps⟩ : ∃ ps, split1 32 s = ps := ⟨_, rfl⟩
  rw [hps] at hown1 hbad hgood hlen hpart
  obtain ⟨a1, c1, hv1, _⟩ := hown1.shape
  rw [List.length_map] at hv1
  subst hv1
  repeat' (first|refine X.O ?_|refine X.A ?_|refine X.B ?_|refine X.C ?_|refine X.D ?_|refine X.E ?_|refine X.F ?_|refine X.G ?_|refine X.H ?_|refine X.I ?_|fail)
  refine WP.loop (fun (q : Nat × Value) => [(4, q.2), (11, .slice a1 ps.length c1), (12, .int .i64 (ps.length : Nat)), (13, .int .i64 (q.1 : Nat))])
    (fun q y => q.1 ≤ ps.length ∧ (∀ j (h : j < ps.length), j < q.1 → goodN ps[j] = true) ∧ Fw.Own w.heap.size 2 y q.2 (Ints ((ps.take q.1).map numN)) ∧ Fw.Own w.heap.size 9 y (.slice a1 ps.length c1) (ps.map St) ∧ Below w.heap.size w y)
    (fun q => ps.length - q.1) (0, v2) ⟨rfl, rfl, rfl, rfl, trivial⟩ ⟨Nat.zero_le _, fun j h hj => by dsimp only at hj; omega, by simpa [Ints] using hown2.below hb1 (Nat.le_refl _), hown1.lower (by omega), hb2.trans (Below.mono hb1 (by omega))⟩ ?_
  clear hown1 hown2 hb1 hb2
  rintro ⟨i, vo⟩ y ⟨hi, hg, hown, hstr, hbl⟩
  dsimp only at hi hg hown hstr ⊢
  have hzy := hbl.size
  repeat' (first|refine X.O ?_|refine X.A ?_|refine X.B ?_|refine X.C ?_|refine X.D ?_|refine X.E ?_|refine X.F ?_|refine X.G ?_|refine X.H ?_|refine X.I ?_|fail)
  first|refine X.J (fun _ => ?_) (fun _ => ?_)|refine X.L (fun _ => ?_) (fun _ => ?_)|refine X.M (fun _ => ?_) (fun _ => ?_)|refine X.R (fun _ => ?_) (fun _ => ?_)|fail
  · rename_i hlt
    have hli : i < ps.length := by omega
    have hpl := hpart _ (List.getElem_mem hli)
    repeat' (first|refine X.O ?_|refine X.A ?_|refine X.B ?_|refine X.C ?_|refine X.D ?_|refine X.E ?_|refine X.F ?_|refine X.G ?_|refine X.H ?_|refine X.I ?_|fail)
    refine WL.ixload (j := i) (a := St ps[i]) (rdStr hstr) (by rw [List.getElem?_map, List.getElem?_eq_getElem hli]; rfl) ?_
    intro p u hu
    rw [show u = St ps[i] from hu]
    clear hu u
    repeat' (first|refine X.O ?_|refine X.A ?_|refine X.B ?_|refine X.C ?_|refine X.D ?_|refine X.E ?_|refine X.F ?_|refine X.G ?_|refine X.H ?_|refine X.I ?_|fail)
    refine WL.call (ParseNumber_any ps[i] (by omega) (hS.below hbl)) ?_
    rintro _ w3 ⟨rfl, hb3⟩
    have hz3 := hb3.size
    have hstr3 := hstr.below hb3 (Nat.le_refl _)
    repeat' (first|refine X.O ?_|refine X.A ?_|refine X.B ?_|refine X.C ?_|refine X.D ?_|refine X.E ?_|refine X.F ?_|refine X.G ?_|refine X.H ?_|refine X.I ?_|fail)
    first|refine X.J (fun _ => ?_) (fun _ => ?_)|refine X.L (fun _ => ?_) (fun _ => ?_)|refine X.M (fun _ => ?_) (fun _ => ?_)|refine X.R (fun _ => ?_) (fun _ => ?_)|fail
    · rename_i hc
      have e := hbad i hli (by unfold goodN; exact decide_eq_false hc)
      rw [e]
      repeat' (first|refine X.O ?_|refine X.A ?_|refine X.B ?_|refine X.C ?_|refine X.D ?_|refine X.E ?_|refine X.F ?_|refine X.G ?_|refine X.H ?_|refine X.I ?_|fail)
      refine ⟨_, ret2 rfl (by rfl) (by rfl), _, rfl, Own.nil _ _ _, ?_⟩
      exact hbl.trans (Below.mono hb3 (by omega))
    · rename_i hc
      have hgi : goodN ps[i] = true := by unfold goodN; exact decide_eq_true (by omega)
      have hown3 := hown.below hb3 (Nat.le_refl _)
      repeat' (first|refine X.O ?_|refine X.A ?_|refine X.B ?_|refine X.C ?_|refine X.D ?_|refine X.E ?_|refine X.F ?_|refine X.G ?_|refine X.H ?_|refine X.I ?_|fail)
      refine o_append1 (u := .int .i64 (numN ps[i])) (fun _ => by rfl) (by rfl) hown3 rfl (by simp [Ints, maxLen]; omega) (by simp [Ints]; omega) (by omega) ?_
      intro p5 v5 w5 hown5 hb5 hf5 _ _
      have hstr5 := hstr3.keep fun k hk => hf5 k (hstr3.block k hk).2 (fun e => hown3.ne_block hstr3 (by decide) e hk)
      repeat' (first|refine X.O ?_|refine X.A ?_|refine X.B ?_|refine X.C ?_|refine X.D ?_|refine X.E ?_|refine X.F ?_|refine X.G ?_|refine X.H ?_|refine X.I ?_|fail)
      refine ⟨(i + 1, v5), ⟨rfl, rfl, rfl, X.T (by dsimp only; omega), trivial⟩, ⟨by dsimp only; omega, fun j h hj => ?_, ?_, hstr5, (hbl.trans (Below.mono hb3 hzy)).trans hb5⟩, by dsimp only; omega⟩
      · dsimp only at hj
        by_cases e : j = i
        · subst e; exact hgi
        · exact hg j h (by omega)
      · dsimp only
        rw [take_snoc numN hli]
        simpa [Ints] using hown5
  · rename_i hge
    have e := hgood fun j h => hg j h (by omega)
    rw [e]
    repeat' (first|refine X.O ?_|refine X.A ?_|refine X.B ?_|refine X.C ?_|refine X.D ?_|refine X.E ?_|refine X.F ?_|refine X.G ?_|refine X.H ?_|refine X.I ?_|fail)
    refine ⟨_, ret2 rfl (by rfl) (by rfl), _, rfl, ?_, hbl⟩
    rw [List.take_of_length_le (by omega)] at hown
    exact hown
end Go.Proofs
