/- ParseTableau, both sides. -/
import Derived.Test.YthepgmajeljdhaaGreatDoorZI
set_option maxRecDepth 8000
namespace Go.Proofs
open Go Go.Fw Go.RowKit Go.Rk
theorem Own.owi {w w' : World} {v : Value} {xs : List Int} (h : Fw.Own w.heap.size 2 w' v (Ints xs)) : OwI 2 w.heap.size w'.heap.size w' v xs := ⟨h, fun k hk => (h.block k hk).2, Nat.le_refl _⟩
theorem all_take_succ {α : Type} (p : α → Bool) {xs : List α} {i : Nat} (h : i < xs.length) : (xs.take (i + 1)).all p = ((xs.take i).all p && p xs[i]) := by
  rw [List.take_succ_eq_append_getElem h, List.all_append]; simp
theorem sParseTableau_any (s : List UInt8) (hs : s.length ≤ 4000000000) (w : World) : Does Tryz.prog 13 [St s] w fun r w' => ResT 25 2 w r w' (parseTab s) := by
  refine Does.enter Tryz.func13 Tryz.ntmps13 rfl (by rfl) ?_
  repeat' (first|refine X.O ?_|refine X.A ?_|refine X.B ?_|refine X.C ?_|refine X.D ?_|refine X.E ?_|refine X.F ?_|refine X.G ?_|refine X.H ?_|refine X.I ?_|fail)
  refine WL.step (o_alloc ?_)
  intro w1 hb1 hbl1 hz1
  repeat' (first|refine X.O ?_|refine X.A ?_|refine X.B ?_|refine X.C ?_|refine X.D ?_|refine X.E ?_|refine X.F ?_|refine X.G ?_|refine X.H ?_|refine X.I ?_|fail)
  refine WL.call (l01Split_any s 124 hs w1) ?_
  rintro v2 w2 ⟨hown2, hb2⟩
  have hz2 := hb2.size
  have hbl2 := hbl1.trans (Below.mono hb2 (by omega))
  replace hb1 := hb1.below hb2 (by omega)
  have hpart := fun (p : List UInt8) (hp : p ∈ split1 124 s) => split1_part hp
  have hres : parseTab s = if (split1 124 s).length = 2 then tabIf ((split1 124 s)[0]?.getD []) ((split1 124 s)[1]?.getD []) else (([], []), 6) := rfl
  obtain ⟨hv, hhv⟩ : ∃ hv, split1 124 s = hv := ⟨_, rfl⟩
  rw [hhv] at hown2 hpart hres
  rw [hres]
  obtain ⟨a2, c2, hv2, _⟩ := hown2.shape
  rw [List.length_map] at hv2
  subst hv2
  have bad : ∀ (w3 : World), Below w.heap.size w w3 → ∀ w4, But w.heap.size w3 w4 → ResT 25 2 w (.tuple #[.agg #[.slice none 0 0, .slice none 0 0], .int .i64 6]) w4 (([], []), 6) := fun w3 h3 w4 h4 => ResT.bad (h3.trans (h4.below (Nat.le_refl _))) 6
  repeat' (first|refine X.O ?_|refine X.A ?_|refine X.B ?_|refine X.C ?_|refine X.D ?_|refine X.E ?_|refine X.F ?_|refine X.G ?_|refine X.H ?_|refine X.I ?_|fail)
  first|refine X.J (fun _ => ?_) (fun _ => ?_)|refine X.L (fun _ => ?_) (fun _ => ?_)|refine X.M (fun _ => ?_) (fun _ => ?_)|refine X.R (fun _ => ?_) (fun _ => ?_)|fail
  · rename_i hne
    rw [if_neg (by omega)]
    repeat' (first|refine X.O ?_|refine X.A ?_|refine X.B ?_|refine X.C ?_|refine X.D ?_|refine X.E ?_|refine X.F ?_|refine X.G ?_|refine X.H ?_|refine X.I ?_|fail)
    refine WL.step (o_build (us := []) (cells := [.slice none 0 0, .slice none 0 0]) (by rfl) (by kernel_rfl) ?_)
    refine WL.step (o_storeS (vs := [.slice none 0 0, .slice none 0 0]) (by rfl) (by rfl) hb1 (by rfl) (by rfl) two_cells ?_)
    intro w4 hb4 hbut4
    repeat' (first|refine X.O ?_|refine X.A ?_|refine X.B ?_|refine X.C ?_|refine X.D ?_|refine X.E ?_|refine X.F ?_|refine X.G ?_|refine X.H ?_|refine X.I ?_|fail)
    exact ⟨_, retS1 rfl (by rfl) hb4 (by rfl) (by rfl), bad _ hbl2 _ hbut4⟩
  rename_i he
  have hl2 : hv.length = 2 := by omega
  obtain ⟨A, B, rfl⟩ : ∃ A B, hv = [A, B] := by
    match hv, hl2 with
    | [A, B], _ => exact ⟨A, B, rfl⟩
  rw [if_pos hl2]
  have hA := hpart A (by simp)
  have hB := hpart B (by simp)
  clear hres hpart hl2 he
  rw [show tabIf ([A, B][0]?.getD []) ([A, B][1]?.getD []) = tabIf A B from rfl]
  repeat' (first|refine X.O ?_|refine X.A ?_|refine X.B ?_|refine X.C ?_|refine X.D ?_|refine X.E ?_|refine X.F ?_|refine X.G ?_|refine X.H ?_|refine X.I ?_|fail)
  refine WL.ixload (j := 1) (a := St B) (rdStr hown2) (by rfl) ?_
  intro p u hu
  rw [show u = St B from hu]
  clear hu u
  refine WL.call (l09Read_any B (by omega) w2) ?_
  rintro _ w3 ⟨vB, rfl, hownB, hb3⟩
  have hz3 := hb3.size
  have hown3 := hown2.below hb3 (Nat.le_refl _)
  replace hb1 := hb1.below hb3 (by omega)
  have hbl3 := hbl2.trans (Below.mono hb3 (by omega))
  obtain ⟨ab, cb, hvB, _⟩ := hownB.shape
  subst hvB
  repeat' (first|refine X.O ?_|refine X.A ?_|refine X.B ?_|refine X.C ?_|refine X.D ?_|refine X.E ?_|refine X.F ?_|refine X.G ?_|refine X.H ?_|refine X.I ?_|fail)
  refine WL.step (o_build (us := [.slice ab (Ints (readL B).1).length cb]) (cells := [.slice none 0 0, .slice ab (Ints (readL B).1).length cb]) (by rfl) (by kernel_rfl) ?_)
  refine WL.var (vs := [.slice none 0 0, .slice ab (Ints (readL B).1).length cb]) (fun _ => by rfl) (by rfl) two_cells ?_
  intro w5 hb5 hbl5 hz5
  obtain ⟨vB, hvB⟩ : ∃ vB, Value.slice ab (Ints (readL B).1).length cb = vB := ⟨_, rfl⟩
  rw [hvB] at hb5 hownB ⊢
  have hP : PT w.heap.size w3.heap.size w w5 (.slice none 0 0) vB [] ([], (readL B).1) :=
    ⟨rfl, by omega, hb1.below hbl5 (by omega), hb5, OwSSv.nilV (by decide) (Nat.le_refl _), (((Own.owi hownB).chg (Chg.of_below hbl5) (by omega)).wide (by omega) (by omega) (Nat.le_refl _)), fun i u hu => by simp at hu, hbl3.trans (Below.mono hbl5 (by omega))⟩
  have hown5 := hown3.below hbl5 (by omega)
  clear hbl5 hb1 hb5 hownB hbl3 hown3 hown2
  repeat' (first|refine X.O ?_|refine X.A ?_|refine X.B ?_|refine X.C ?_|refine X.D ?_|refine X.E ?_|refine X.F ?_|refine X.G ?_|refine X.H ?_|refine X.I ?_|fail)
  refine WL.ixload (j := 0) (a := St A) (rdStr hown5) (by rfl) ?_
  intro p2 u hu
  rw [show u = St A from hu]
  clear hu u hown5
  refine WL.call (l01Split_any A 59 (by omega) w5) ?_
  rintro v6 w6 ⟨hown6, hb6⟩
  have hz6 := hb6.size
  have hP6 := hP.below hb6
  have hfb := fun (i : Nat) (h : i < (split1 59 A).length) => fineL_bad (s := A) h
  have hfg := fineL_good (s := A)
  have hlen := split1_length 59 A
  have hpart := fun (p : List UInt8) (hp : p ∈ split1 59 A) => split1_part hp
  have hrw : rowsL A = (split1 59 A).map fun r => (readL r).1 := rfl
  have hfi : fineL A = (split1 59 A).all fun r => (readL r).2 := rfl
  obtain ⟨rs, hrs⟩ : ∃ rs, split1 59 A = rs := ⟨_, rfl⟩
  rw [hrs] at hown6 hfb hfg hlen hpart hrw hfi
  obtain ⟨a6, c6, hv6, _⟩ := hown6.shape
  rw [List.length_map] at hv6
  subst hv6
  repeat' (first|refine X.O ?_|refine X.A ?_|refine X.B ?_|refine X.C ?_|refine X.D ?_|refine X.E ?_|refine X.F ?_|refine X.G ?_|refine X.H ?_|refine X.I ?_|fail)
  refine WP.loop (fun (q : Nat × Bool × Value × List Value) => [(2, .pointer (some ⟨w.heap.size, 0, none⟩)), (6, .bool q.2.1), (7, .pointer (some ⟨w3.heap.size, 0, none⟩)), (8, .slice a6 rs.length c6), (9, .int .i64 (q.1 : Nat))])
    (fun q y => q.1 ≤ rs.length ∧ q.2.1 = ((readL B).2 && (rs.take q.1).all fun r => (readL r).2) ∧ PT w.heap.size w3.heap.size w y q.2.2.1 vB q.2.2.2 ((rs.take q.1).map (fun r => (readL r).1), (readL B).1) ∧ Fw.Own w.heap.size 9 y (.slice a6 rs.length c6) (rs.map St))
    (fun q => rs.length - q.1) (0, (readL B).2, .slice none 0 0, []) ⟨rfl, rfl, rfl, rfl, rfl, trivial⟩ ⟨Nat.zero_le _, by simp, by simpa using hP6, hown6.lower (by omega)⟩ ?_
  clear hP hP6 hown6 hb6
  rintro ⟨i, ok, va, vs⟩ y ⟨hi, hok, hP, hstr⟩
  dsimp only at hi hok hP hstr ⊢
  have hzy := hP.bel.size
  have hby := hP.blt
  have hyr := hP.rb
  repeat' (first|refine X.O ?_|refine X.A ?_|refine X.B ?_|refine X.C ?_|refine X.D ?_|refine X.E ?_|refine X.F ?_|refine X.G ?_|refine X.H ?_|refine X.I ?_|fail)
  first|refine X.J (fun _ => ?_) (fun _ => ?_)|refine X.L (fun _ => ?_) (fun _ => ?_)|refine X.M (fun _ => ?_) (fun _ => ?_)|refine X.R (fun _ => ?_) (fun _ => ?_)|fail
  · rename_i hlt
    have hli : i < rs.length := by omega
    have hpl := hpart _ (List.getElem_mem hli)
    have hok2 : ((readL B).2 && (rs.take (i + 1)).all fun r => (readL r).2) = (ok && (readL rs[i]).2) := by rw [all_take_succ _ hli, hok, Bool.and_assoc]
    repeat' (first|refine X.O ?_|refine X.A ?_|refine X.B ?_|refine X.C ?_|refine X.D ?_|refine X.E ?_|refine X.F ?_|refine X.G ?_|refine X.H ?_|refine X.I ?_|fail)
    refine WL.ixload (j := i) (a := St rs[i]) (rdStr hstr) (by rw [List.getElem?_map, List.getElem?_eq_getElem hli]; rfl) ?_
    intro p3 u hu
    rw [show u = St rs[i] from hu]
    clear hu u
    refine WL.call (l09Read_any rs[i] (by omega) y) ?_
    rintro _ w7 ⟨vr, rfl, hownr, hb7⟩
    have hz7 := hb7.size
    have hP7 := hP.below hb7
    have hstr7 := hstr.below hb7 (Nat.le_refl _)
    iterate 5 (refine X.A ?_)
    refine WL.nil ?_
    refine thenN ?_
    refine WP.seq ?_
    refine WP.mid (fun l' y' => Agree l' [(2, .pointer (some ⟨w.heap.size, 0, none⟩)), (6, .bool (ok && (readL rs[i]).2)), (7, .pointer (some ⟨w3.heap.size, 0, none⟩)), (8, .slice a6 rs.length c6), (9, .int .i64 (i : Nat)), (10, vr)] ∧ y' = w7) ?_ ?_
    · cases ok with
      | false =>
        repeat' (first|refine X.O ?_|refine X.A ?_|refine X.B ?_|refine X.C ?_|refine X.D ?_|refine X.E ?_|refine X.F ?_|refine X.G ?_|refine X.H ?_|refine X.I ?_|fail)
        exact ⟨⟨rfl, rfl, rfl, rfl, rfl, rfl, trivial⟩, rfl⟩
      | true =>
        repeat' (first|refine X.O ?_|refine X.A ?_|refine X.B ?_|refine X.C ?_|refine X.D ?_|refine X.E ?_|refine X.F ?_|refine X.G ?_|refine X.H ?_|refine X.I ?_|fail)
        exact ⟨⟨rfl, rfl, rfl, rfl, rfl, rfl, trivial⟩, rfl⟩
    rintro l' _ ⟨hag, rfl⟩
    refine WP.frame _ hag ?_
    clear hag
    rw [← hok2]
    repeat' (first|refine X.O ?_|refine X.A ?_|refine X.B ?_|refine X.C ?_|refine X.D ?_|refine X.E ?_|refine X.F ?_|refine X.G ?_|refine X.H ?_|refine X.I ?_|fail)
    refine WL.fld hP7.var ?_
    intro p4
    repeat' (first|refine X.O ?_|refine X.A ?_|refine X.B ?_|refine X.C ?_|refine X.D ?_|refine X.E ?_|refine X.F ?_|refine X.G ?_|refine X.H ?_|refine X.I ?_|fail)
    refine o_append1 (u := vr) (fun _ => by rfl) (by rfl) hP7.rows.own (by obtain ⟨_, _, h, _⟩ := hownr.shape; rw [h]; rfl) (by rw [hP7.rows.len]; simp [maxLen]; omega) (by rw [hP7.rows.len]; simp; omega) (by omega) ?_
    intro p8 v8 w8 hown8 hb8 hf8 hz8 _
    have hv8 := hP7.var.keep (hf8 _ hP7.var.lt (hP7.rows.own.outV hP7.var (by decide)))
    have hstr8 := hstr7.keep fun k hk => hf8 k (hstr7.block k hk).2 (fun e => hP7.rows.own.ne_block hstr7 (by decide) e hk)
    refine WL.fldst hv8 ?_ (hu := by obtain ⟨_, _, h, _⟩ := hown8.shape; rw [h]; rfl)
    intro p9 w9 hb9 hbut9
    have hstr9 := hstr8.keep fun k hk => hbut9.block k (hstr8.neV hv8 (by decide) hk)
    have hP9 := hP7.addRow (Nat.le_refl _) hP (Own.owi hownr) hz7 hown8 hb8 hf8 hb9 hbut9 (hP.rows.chg (Chg.of_below hb7) (by omega))
    repeat' (first|refine X.O ?_|refine X.A ?_|refine X.B ?_|refine X.C ?_|refine X.D ?_|refine X.E ?_|refine X.F ?_|refine X.G ?_|refine X.H ?_|refine X.I ?_|fail)
    refine ⟨(i + 1, _, v8, vs ++ [vr]), ⟨rfl, rfl, rfl, rfl, X.T (by dsimp only; omega), trivial⟩, ⟨by dsimp only; omega, rfl, ?_, hstr9⟩, by dsimp only; omega⟩
    dsimp only
    rw [take_snoc (fun r => (readL r).1) hli]
    exact hP9
  · rename_i hge
    have hie : i = rs.length := by omega
    subst hie
    rw [List.take_of_length_le (Nat.le_refl _)] at hok hP
    rw [← hfi] at hok
    rw [← hrw] at hP
    have bad2 : ∀ w4, But w.heap.size y w4 → ResT 25 2 w (.tuple #[.agg #[.slice none 0 0, .slice none 0 0], .int .i64 6]) w4 (([], []), 6) := fun w4 h4 => bad _ hP.bel _ h4
    cases ok with
    | false =>
      have e : tabIf A B = (([], []), 6) := by
        unfold tabIf
        rw [if_neg]
        rintro ⟨h1, h2, _⟩
        rw [h1, h2] at hok
        cases hok
      rw [e]
      repeat' (first|refine X.O ?_|refine X.A ?_|refine X.B ?_|refine X.C ?_|refine X.D ?_|refine X.E ?_|refine X.F ?_|refine X.G ?_|refine X.H ?_|refine X.I ?_|fail)
      refine WL.step (o_build (us := []) (cells := [.slice none 0 0, .slice none 0 0]) (by rfl) (by kernel_rfl) ?_)
      refine WL.step (o_storeS (vs := [.slice none 0 0, .slice none 0 0]) (by rfl) (by rfl) hP.res (by rfl) (by rfl) two_cells ?_)
      intro w4 hb4 hbut4
      repeat' (first|refine X.O ?_|refine X.A ?_|refine X.B ?_|refine X.C ?_|refine X.D ?_|refine X.E ?_|refine X.F ?_|refine X.G ?_|refine X.H ?_|refine X.I ?_|fail)
      exact ⟨_, retS1 rfl (by rfl) hb4 (by rfl) (by rfl), bad2 _ hbut4⟩
    | true =>
      have hok3 : (readL B).2 = true ∧ fineL A = true := by
        rw [← Bool.and_eq_true]; exact hok.symm
      obtain ⟨aA, nA, cA, aB, nB, cB, hcl⟩ := hP.it.cells
      simp only [Value.agg.injEq] at hcl
      have hcl2 := congrArg Array.toList hcl
      simp only [List.cons.injEq, and_true] at hcl2
      obtain ⟨rfl, hcB⟩ := hcl2
      rw [hcB] at hP
      clear hcl
      repeat' (first|refine X.O ?_|refine X.A ?_|refine X.B ?_|refine X.C ?_|refine X.D ?_|refine X.E ?_|refine X.F ?_|refine X.G ?_|refine X.H ?_|refine X.I ?_|fail)
      refine WL.step (o_loadS (by rfl) hP.var (by rfl) ?_)
      refine WL.call (l09Is_any hP.it) ?_
      rintro _ w4 ⟨rfl, hc4⟩
      have hP4 := hP.below (hc4.below (Nat.le_refl _) (Or.inr (Nat.le_refl _)))
      by_cases hx : isTab (rowsL A, (readL B).1) = true
      · have e : tabIf A B = ((rowsL A, (readL B).1), 0) := by unfold tabIf; rw [if_pos ⟨hok3.1, hok3.2, hx⟩]
        rw [e, hx]
        repeat' (first|refine X.O ?_|refine X.A ?_|refine X.B ?_|refine X.C ?_|refine X.D ?_|refine X.E ?_|refine X.F ?_|refine X.G ?_|refine X.H ?_|refine X.I ?_|fail)
        refine WL.step (o_loadS (by rfl) hP4.var (by rfl) ?_)
        refine WL.step (o_storeS (vs := [.slice aA nA cA, .slice aB nB cB]) (by rfl) (by rfl) hP4.res (by rfl) (by rfl) two_cells ?_)
        intro w8 hb8 hbut8
        repeat' (first|refine X.O ?_|refine X.A ?_|refine X.B ?_|refine X.C ?_|refine X.D ?_|refine X.E ?_|refine X.F ?_|refine X.G ?_|refine X.H ?_|refine X.I ?_|fail)
        exact ⟨_, retS1 rfl (by rfl) hb8 (by rfl) (by rfl), hP4.done hbut8⟩
      · have e : tabIf A B = (([], []), 6) := by
          unfold tabIf
          rw [if_neg]
          rintro ⟨_, _, h⟩
          exact hx h
        rw [e, Bool.eq_false_iff.2 hx]
        repeat' (first|refine X.O ?_|refine X.A ?_|refine X.B ?_|refine X.C ?_|refine X.D ?_|refine X.E ?_|refine X.F ?_|refine X.G ?_|refine X.H ?_|refine X.I ?_|fail)
        refine WL.step (o_build (us := []) (cells := [.slice none 0 0, .slice none 0 0]) (by rfl) (by kernel_rfl) ?_)
        refine WL.step (o_storeS (vs := [.slice none 0 0, .slice none 0 0]) (by rfl) (by rfl) hP4.res (by rfl) (by rfl) two_cells ?_)
        intro w9 hb9 hbut9
        repeat' (first|refine X.O ?_|refine X.A ?_|refine X.B ?_|refine X.C ?_|refine X.D ?_|refine X.E ?_|refine X.F ?_|refine X.G ?_|refine X.H ?_|refine X.I ?_|fail)
        exact ⟨_, retS1 rfl (by rfl) hb9 (by rfl) (by rfl), bad _ hP4.bel _ hbut9⟩
theorem ParseTableau_any (s : List UInt8) (hs : s.length ≤ 4000000000) {w : World} (hS : SW w) : Does Tryz.prog 10 [St s] w fun r w' => ResT 25 2 w r w' (parseTab s) := by
  refine Does.enter Tryz.func10 Tryz.ntmps10 rfl (by rfl) ?_
  repeat' (first|refine X.O ?_|refine X.A ?_|refine X.B ?_|refine X.C ?_|refine X.D ?_|refine X.E ?_|refine X.F ?_|refine X.G ?_|refine X.H ?_|refine X.I ?_|fail)
  refine WL.step (o_alloc ?_)
  intro w1 hb1 hbl1 hz1
  repeat' (first|refine X.O ?_|refine X.A ?_|refine X.B ?_|refine X.C ?_|refine X.D ?_|refine X.E ?_|refine X.F ?_|refine X.G ?_|refine X.H ?_|refine X.I ?_|fail)
  refine WL.call (Cut_any s 124 hs (hS.below hbl1).ml) ?_
  rintro _ w2 ⟨rfl, hs2⟩
  have hz2 := hs2.size
  have hbl2 := hbl1.trans (hs2.below _)
  replace hb1 := hb1.below (hs2.below (w.heap.size + 1)) (by omega)
  obtain ⟨A, B, d, hcut, hA, hB, hres⟩ : ∃ A B d, Lib.cut s [124] = (A, B, d) ∧ A.length ≤ s.length ∧ B.length ≤ s.length ∧ parseTab s = if d = true then tabIf A B else (([], []), 6) := by
    rcases parseTab_cut s with ⟨h1, h2⟩ | ⟨u, v, h1, h2⟩
    · exact ⟨_, _, _, h1, Nat.le_refl _, Nat.zero_le _, h2⟩
    · have := cut_length h1
      exact ⟨u, v, true, h1, by omega, by omega, h2⟩
  rw [hcut, hres]
  have bad : ∀ (w3 : World), Below w.heap.size w w3 → ∀ w4, But w.heap.size w3 w4 → ResT 25 2 w (.tuple #[.agg #[.slice none 0 0, .slice none 0 0], .int .i64 6]) w4 (([], []), 6) := fun w3 h3 w4 h4 => ResT.bad (h3.trans (h4.below (Nat.le_refl _))) 6
  repeat' (first|refine X.O ?_|refine X.A ?_|refine X.B ?_|refine X.C ?_|refine X.D ?_|refine X.E ?_|refine X.F ?_|refine X.G ?_|refine X.H ?_|refine X.I ?_|fail)
  refine WL.call (readNumbers_any B (by omega) (hS.below hbl2)) ?_
  rintro _ w3 ⟨vB, rfl, hownB, hb3⟩
  have hz3 := hb3.size
  replace hb1 := hb1.below hb3 (by omega)
  have hbl3 := hbl2.trans (Below.mono hb3 (by omega))
  obtain ⟨ab, cb, hvB, _⟩ := hownB.shape
  subst hvB
  obtain ⟨okB, hokB⟩ : ∃ okB, (readL B).2 = okB := ⟨_, rfl⟩
  have eBad : ¬ (d = true ∧ okB = true) → (if d = true then tabIf A B else (([], []), 6)) = (([], []), 6) := fun h => by
    by_cases hd : d = true
    · rw [if_pos hd]
      unfold tabIf
      rw [hokB, if_neg fun h2 => h ⟨hd, h2.1⟩]
    · rw [if_neg hd]
  rw [hokB]
  by_cases hgo : d = true ∧ okB = true
  case neg =>
    rw [eBad hgo]
    cases d with
    | false =>
      repeat' (first|refine X.O ?_|refine X.A ?_|refine X.B ?_|refine X.C ?_|refine X.D ?_|refine X.E ?_|refine X.F ?_|refine X.G ?_|refine X.H ?_|refine X.I ?_|fail)
      refine WL.step (o_build (us := []) (cells := [.slice none 0 0, .slice none 0 0]) (by rfl) (by kernel_rfl) ?_)
      refine WL.step (o_storeS (vs := [.slice none 0 0, .slice none 0 0]) (by rfl) (by rfl) hb1 (by rfl) (by rfl) two_cells ?_)
      intro w4 hb4 hbut4
      repeat' (first|refine X.O ?_|refine X.A ?_|refine X.B ?_|refine X.C ?_|refine X.D ?_|refine X.E ?_|refine X.F ?_|refine X.G ?_|refine X.H ?_|refine X.I ?_|fail)
      exact ⟨_, retS1 rfl (by rfl) hb4 (by rfl) (by rfl), bad _ hbl3 _ hbut4⟩
    | true =>
      have : okB = false := by
        cases okB with
        | false => rfl
        | true => exact absurd ⟨rfl, rfl⟩ hgo
      subst this
      repeat' (first|refine X.O ?_|refine X.A ?_|refine X.B ?_|refine X.C ?_|refine X.D ?_|refine X.E ?_|refine X.F ?_|refine X.G ?_|refine X.H ?_|refine X.I ?_|fail)
      refine WL.step (o_build (us := []) (cells := [.slice none 0 0, .slice none 0 0]) (by rfl) (by kernel_rfl) ?_)
      refine WL.step (o_storeS (vs := [.slice none 0 0, .slice none 0 0]) (by rfl) (by rfl) hb1 (by rfl) (by rfl) two_cells ?_)
      intro w4 hb4 hbut4
      repeat' (first|refine X.O ?_|refine X.A ?_|refine X.B ?_|refine X.C ?_|refine X.D ?_|refine X.E ?_|refine X.F ?_|refine X.G ?_|refine X.H ?_|refine X.I ?_|fail)
      exact ⟨_, retS1 rfl (by rfl) hb4 (by rfl) (by rfl), bad _ hbl3 _ hbut4⟩
  obtain ⟨rfl, rfl⟩ := hgo
  rw [if_pos (rfl : true = true)]
  clear eBad
  repeat' (first|refine X.O ?_|refine X.A ?_|refine X.B ?_|refine X.C ?_|refine X.D ?_|refine X.E ?_|refine X.F ?_|refine X.G ?_|refine X.H ?_|refine X.I ?_|fail)
  refine WL.step (o_build (us := [.slice ab (Ints (readL B).1).length cb]) (cells := [.slice none 0 0, .slice ab (Ints (readL B).1).length cb]) (by rfl) (by kernel_rfl) ?_)
  refine WL.var (vs := [.slice none 0 0, .slice ab (Ints (readL B).1).length cb]) (fun _ => by rfl) (by rfl) two_cells ?_
  intro w5 hb5 hbl5 hz5
  obtain ⟨vB, hvB⟩ : ∃ vB, Value.slice ab (Ints (readL B).1).length cb = vB := ⟨_, rfl⟩
  rw [hvB] at hb5 hownB ⊢
  have hP : PT w.heap.size w3.heap.size w w5 (.slice none 0 0) vB [] ([], (readL B).1) :=
    ⟨rfl, by omega, hb1.below hbl5 (by omega), hb5, OwSSv.nilV (by decide) (Nat.le_refl _), (((Own.owi hownB).chg (Chg.of_below hbl5) (by omega)).wide (by omega) (by omega) (Nat.le_refl _)), fun i u hu => by simp at hu, hbl3.trans (Below.mono hbl5 (by omega))⟩
  clear hbl5 hb1 hb5 hownB hbl3
  repeat' (first|refine X.O ?_|refine X.A ?_|refine X.B ?_|refine X.C ?_|refine X.D ?_|refine X.E ?_|refine X.F ?_|refine X.G ?_|refine X.H ?_|refine X.I ?_|fail)
  refine WL.call (Split_any A 59 (by omega) (hS.below hP.bel).ml) ?_
  rintro v6 w6 ⟨hown6, hb6⟩
  have hz6 := hb6.size
  have hP6 := hP.below hb6
  have hfb := fun (i : Nat) (h : i < (split1 59 A).length) => fineL_bad (s := A) h
  have hfg := fineL_good (s := A)
  have hlen := split1_length 59 A
  have hpart := fun (p : List UInt8) (hp : p ∈ split1 59 A) => split1_part hp
  have hrw : rowsL A = (split1 59 A).map fun r => (readL r).1 := rfl
  obtain ⟨rs, hrs⟩ : ∃ rs, split1 59 A = rs := ⟨_, rfl⟩
  rw [hrs] at hown6 hfb hfg hlen hpart hrw
  obtain ⟨a6, c6, hv6, _⟩ := hown6.shape
  rw [List.length_map] at hv6
  subst hv6
  repeat' (first|refine X.O ?_|refine X.A ?_|refine X.B ?_|refine X.C ?_|refine X.D ?_|refine X.E ?_|refine X.F ?_|refine X.G ?_|refine X.H ?_|refine X.I ?_|fail)
  refine WP.loop (fun (q : Nat × Value × List Value) => [(2, .pointer (some ⟨w.heap.size, 0, none⟩)), (9, .pointer (some ⟨w3.heap.size, 0, none⟩)), (35, .slice a6 rs.length c6), (36, .int .i64 (rs.length : Nat)), (37, .int .i64 (q.1 : Nat))])
    (fun q y => q.1 ≤ rs.length ∧ (∀ j (h : j < rs.length), j < q.1 → (readL rs[j]).2 = true) ∧ PT w.heap.size w3.heap.size w y q.2.1 vB q.2.2 ((rs.take q.1).map (fun r => (readL r).1), (readL B).1) ∧ Fw.Own w.heap.size 9 y (.slice a6 rs.length c6) (rs.map St))
    (fun q => rs.length - q.1) (0, .slice none 0 0, []) ⟨rfl, rfl, rfl, rfl, rfl, trivial⟩ ⟨Nat.zero_le _, fun j h hj => by dsimp only at hj; omega, by simpa using hP6, hown6.lower (by omega)⟩ ?_
  clear hP hP6 hown6 hb6
  rintro ⟨i, va, vs⟩ y ⟨hi, hok, hP, hstr⟩
  dsimp only at hi hok hP hstr ⊢
  have hzy := hP.bel.size
  have hby := hP.blt
  have hyr := hP.rb
  repeat' (first|refine X.O ?_|refine X.A ?_|refine X.B ?_|refine X.C ?_|refine X.D ?_|refine X.E ?_|refine X.F ?_|refine X.G ?_|refine X.H ?_|refine X.I ?_|fail)
  first|refine X.J (fun _ => ?_) (fun _ => ?_)|refine X.L (fun _ => ?_) (fun _ => ?_)|refine X.M (fun _ => ?_) (fun _ => ?_)|refine X.R (fun _ => ?_) (fun _ => ?_)|fail
  · rename_i hlt
    have hli : i < rs.length := by omega
    have hpl := hpart _ (List.getElem_mem hli)
    repeat' (first|refine X.O ?_|refine X.A ?_|refine X.B ?_|refine X.C ?_|refine X.D ?_|refine X.E ?_|refine X.F ?_|refine X.G ?_|refine X.H ?_|refine X.I ?_|fail)
    refine WL.ixload (j := i) (a := St rs[i]) (rdStr hstr) (by rw [List.getElem?_map, List.getElem?_eq_getElem hli]; rfl) ?_
    intro p3 u hu
    rw [show u = St rs[i] from hu]
    clear hu u
    repeat' (first|refine X.O ?_|refine X.A ?_|refine X.B ?_|refine X.C ?_|refine X.D ?_|refine X.E ?_|refine X.F ?_|refine X.G ?_|refine X.H ?_|refine X.I ?_|fail)
    refine WL.call (readNumbers_any rs[i] (by omega) (hS.below hP.bel)) ?_
    rintro _ w7 ⟨vr, rfl, hownr, hb7⟩
    have hz7 := hb7.size
    have hP7 := hP.below hb7
    have hstr7 := hstr.below hb7 (Nat.le_refl _)
    obtain ⟨okr, hokr⟩ : ∃ okr, (readL rs[i]).2 = okr := ⟨_, rfl⟩
    rw [hokr]
    repeat' (first|refine X.O ?_|refine X.A ?_|refine X.B ?_|refine X.C ?_|refine X.D ?_|refine X.E ?_|refine X.F ?_|refine X.G ?_|refine X.H ?_|refine X.I ?_|fail)
    cases okr with
    | false =>
      have e : tabIf A B = (([], []), 6) := by
        unfold tabIf
        rw [if_neg]
        rintro ⟨_, h2, _⟩
        rw [hfb i hli hokr] at h2
        cases h2
      rw [e]
      repeat' (first|refine X.O ?_|refine X.A ?_|refine X.B ?_|refine X.C ?_|refine X.D ?_|refine X.E ?_|refine X.F ?_|refine X.G ?_|refine X.H ?_|refine X.I ?_|fail)
      refine WL.step (o_build (us := []) (cells := [.slice none 0 0, .slice none 0 0]) (by rfl) (by kernel_rfl) ?_)
      refine WL.step (o_storeS (vs := [.slice none 0 0, .slice none 0 0]) (by rfl) (by rfl) hP7.res (by rfl) (by rfl) two_cells ?_)
      intro w4 hb4 hbut4
      repeat' (first|refine X.O ?_|refine X.A ?_|refine X.B ?_|refine X.C ?_|refine X.D ?_|refine X.E ?_|refine X.F ?_|refine X.G ?_|refine X.H ?_|refine X.I ?_|fail)
      exact ⟨_, retS1 rfl (by rfl) hb4 (by rfl) (by rfl), bad _ hP7.bel _ hbut4⟩
    | true =>
      repeat' (first|refine X.O ?_|refine X.A ?_|refine X.B ?_|refine X.C ?_|refine X.D ?_|refine X.E ?_|refine X.F ?_|refine X.G ?_|refine X.H ?_|refine X.I ?_|fail)
      refine WL.fld hP7.var ?_
      intro p4
      repeat' (first|refine X.O ?_|refine X.A ?_|refine X.B ?_|refine X.C ?_|refine X.D ?_|refine X.E ?_|refine X.F ?_|refine X.G ?_|refine X.H ?_|refine X.I ?_|fail)
      refine o_append1 (u := vr) (fun _ => by rfl) (by rfl) hP7.rows.own (by obtain ⟨_, _, h, _⟩ := hownr.shape; rw [h]; rfl) (by rw [hP7.rows.len]; simp [maxLen]; omega) (by rw [hP7.rows.len]; simp; omega) (by omega) ?_
      intro p8 v8 w8 hown8 hb8 hf8 hz8 _
      have hv8 := hP7.var.keep (hf8 _ hP7.var.lt (hP7.rows.own.outV hP7.var (by decide)))
      have hstr8 := hstr7.keep fun k hk => hf8 k (hstr7.block k hk).2 (fun e => hP7.rows.own.ne_block hstr7 (by decide) e hk)
      refine WL.fldst hv8 ?_ (hu := by obtain ⟨_, _, h, _⟩ := hown8.shape; rw [h]; rfl)
      intro p9 w9 hb9 hbut9
      have hstr9 := hstr8.keep fun k hk => hbut9.block k (hstr8.neV hv8 (by decide) hk)
      have hP9 := hP7.addRow (Nat.le_refl _) hP (Own.owi hownr) hz7 hown8 hb8 hf8 hb9 hbut9 (hP.rows.chg (Chg.of_below hb7) (by omega))
      repeat' (first|refine X.O ?_|refine X.A ?_|refine X.B ?_|refine X.C ?_|refine X.D ?_|refine X.E ?_|refine X.F ?_|refine X.G ?_|refine X.H ?_|refine X.I ?_|fail)
      refine ⟨(i + 1, v8, vs ++ [vr]), ⟨rfl, rfl, rfl, rfl, X.T (by dsimp only; omega), trivial⟩, ⟨by dsimp only; omega, fun j h hj => ?_, ?_, hstr9⟩, by dsimp only; omega⟩
      · dsimp only at hj
        by_cases e : j = i
        · subst e; exact hokr
        · exact hok j h (by omega)
      · dsimp only
        rw [take_snoc (fun r => (readL r).1) hli]
        exact hP9
  · rename_i hge
    have hie : i = rs.length := by omega
    subst hie
    have hfine := hfg fun j h => hok j h h
    rw [List.take_of_length_le (Nat.le_refl _)] at hP
    rw [← hrw] at hP
    obtain ⟨aA, nA, cA, aB, nB, cB, hcl⟩ := hP.it.cells
    simp only [Value.agg.injEq] at hcl
    have hcl2 := congrArg Array.toList hcl
    simp only [List.cons.injEq, and_true] at hcl2
    obtain ⟨rfl, hcB⟩ := hcl2
    rw [hcB] at hP
    clear hcl
    repeat' (first|refine X.O ?_|refine X.A ?_|refine X.B ?_|refine X.C ?_|refine X.D ?_|refine X.E ?_|refine X.F ?_|refine X.G ?_|refine X.H ?_|refine X.I ?_|fail)
    refine WL.step (o_loadS (by rfl) hP.var (by rfl) ?_)
    refine WL.call (IsTableau_any hP.it) ?_
    rintro _ w4 ⟨rfl, hc4⟩
    have hP4 := hP.below (hc4.below (Nat.le_refl _) (Or.inr (Nat.le_refl _)))
    by_cases hx : isTab (rowsL A, (readL B).1) = true
    · have e : tabIf A B = ((rowsL A, (readL B).1), 0) := by unfold tabIf; rw [if_pos ⟨hokB, hfine, hx⟩]
      rw [e, hx]
      repeat' (first|refine X.O ?_|refine X.A ?_|refine X.B ?_|refine X.C ?_|refine X.D ?_|refine X.E ?_|refine X.F ?_|refine X.G ?_|refine X.H ?_|refine X.I ?_|fail)
      refine WL.step (o_loadS (by rfl) hP4.var (by rfl) ?_)
      refine WL.step (o_storeS (vs := [.slice aA nA cA, .slice aB nB cB]) (by rfl) (by rfl) hP4.res (by rfl) (by rfl) two_cells ?_)
      intro w8 hb8 hbut8
      repeat' (first|refine X.O ?_|refine X.A ?_|refine X.B ?_|refine X.C ?_|refine X.D ?_|refine X.E ?_|refine X.F ?_|refine X.G ?_|refine X.H ?_|refine X.I ?_|fail)
      exact ⟨_, retS1 rfl (by rfl) hb8 (by rfl) (by rfl), hP4.done hbut8⟩
    · have e : tabIf A B = (([], []), 6) := by
        unfold tabIf
        rw [if_neg]
        rintro ⟨_, _, h⟩
        exact hx h
      rw [e, Bool.eq_false_iff.2 hx]
      repeat' (first|refine X.O ?_|refine X.A ?_|refine X.B ?_|refine X.C ?_|refine X.D ?_|refine X.E ?_|refine X.F ?_|refine X.G ?_|refine X.H ?_|refine X.I ?_|fail)
      refine WL.step (o_build (us := []) (cells := [.slice none 0 0, .slice none 0 0]) (by rfl) (by kernel_rfl) ?_)
      refine WL.step (o_storeS (vs := [.slice none 0 0, .slice none 0 0]) (by rfl) (by rfl) hP4.res (by rfl) (by rfl) two_cells ?_)
      intro w9 hb9 hbut9
      repeat' (first|refine X.O ?_|refine X.A ?_|refine X.B ?_|refine X.C ?_|refine X.D ?_|refine X.E ?_|refine X.F ?_|refine X.G ?_|refine X.H ?_|refine X.I ?_|fail)
      exact ⟨_, retS1 rfl (by rfl) hb9 (by rfl) (by rfl), bad _ hP4.bel _ hbut9⟩
end Go.Proofs
