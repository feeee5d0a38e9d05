/- The drawn tableaus: l09Draw. -/
import Derived.Test.YthepgmajeljdhaaGreatDoorD1
import Derived.Test.YthepgmajeljdhaaGreatDoorD2
set_option maxRecDepth 8000
namespace Go.Fw
open Go Go.RowKit Go.Rk
/-- A tableau with n stages. -/
def Sq (n : Nat) (x : TabD) : Prop := x.1.length = n ∧ (∀ r ∈ x.1, r.length = n) ∧ x.2.length = n
theorem sq_named (s : Nat) (q q' : Int) (xs ys : List Int) (h : ys.length = s) : Sq s (sqL s q xs, rowL q' ys) :=
  ⟨sqL_length _ _ _, fun r hr => by
    unfold sqL at hr
    obtain ⟨i, _, rfl⟩ := List.mem_map.1 hr
    exact sqRow_length _ _ _ _, by rw [rowL_length, h]⟩
def SqP (x : TabD) : Prop := ∃ n, 1 ≤ n ∧ n ≤ 4 ∧ Sq n x
theorem sqP_ite {b : Bool} {x y : TabD} (h1 : SqP x) (h2 : SqP y) : SqP (if b then x else y) := by cases b <;> assumption
theorem namedT_sq (s : ByteArray) : SqP (namedT s) := by
  unfold namedT
  refine sqP_ite ⟨1, by omega, by omega, sq_named 1 _ _ _ _ rfl⟩ (sqP_ite ⟨2, by omega, by omega, rfl, (by intro r hr; simp only [gaussT, List.mem_cons, List.not_mem_nil, or_false] at hr; rcases hr with rfl | rfl <;> rfl), rowL_length _ _⟩ ?_)
  refine sqP_ite ⟨2, by omega, by omega, sq_named 2 _ _ _ _ rfl⟩ ?_
  refine sqP_ite ⟨1, by omega, by omega, sq_named 1 _ _ _ _ rfl⟩ ?_
  refine sqP_ite ⟨3, by omega, by omega, sq_named 3 _ _ _ _ rfl⟩ ?_
  refine sqP_ite ⟨3, by omega, by omega, sq_named 3 _ _ _ _ rfl⟩ ?_
  refine sqP_ite ⟨1, by omega, by omega, sq_named 1 _ _ _ _ rfl⟩ ?_
  refine sqP_ite ⟨2, by omega, by omega, sq_named 2 _ _ _ _ rfl⟩ ?_
  refine sqP_ite ⟨2, by omega, by omega, sq_named 2 _ _ _ _ rfl⟩ ?_
  refine sqP_ite ⟨2, by omega, by omega, sq_named 2 _ _ _ _ rfl⟩ ?_
  refine sqP_ite ⟨4, by omega, by omega, sq_named 4 _ _ _ _ rfl⟩ ?_
  exact ⟨2, by omega, by omega, sq_named 2 _ _ _ _ rfl⟩
theorem frc_isN (a q : Int) : isN (frc a q) = true := by unfold frc; exact nm_isN _
theorem rowL_allN (q : Int) (xs : List Int) : allN (rowL q xs) = true := allN_of fun y hy => by
  unfold rowL at hy
  obtain ⟨z, _, rfl⟩ := List.mem_map.1 hy
  exact frc_isN _ _
theorem sqL_allN (s : Nat) (q : Int) (xs : List Int) : ∀ r ∈ sqL s q xs, allN r = true := fun r hr => by
  unfold sqL at hr
  obtain ⟨i, _, rfl⟩ := List.mem_map.1 hr
  refine allN_of fun y hy => ?_
  unfold sqRow at hy
  obtain ⟨k, _, rfl⟩ := List.mem_map.1 hy
  exact frc_isN _ _
def AllT (x : TabD) : Prop := allN x.2 = true ∧ ∀ r ∈ x.1, allN r = true
theorem allT_ite {b : Bool} {x y : TabD} (h1 : AllT x) (h2 : AllT y) : AllT (if b then x else y) := by cases b <;> assumption
theorem allT_sq (s : Nat) (q q' : Int) (xs ys : List Int) : AllT (sqL s q xs, rowL q' ys) := ⟨rowL_allN _ _, sqL_allN _ _ _⟩
theorem gaussT_all : AllT gaussT := ⟨rowL_allN _ _, fun r hr => by
  simp only [gaussT, List.mem_cons, List.not_mem_nil, or_false] at hr
  rcases hr with rfl | rfl
  · refine allN_of fun y hy => ?_
    simp only [List.mem_cons, List.not_mem_nil, or_false] at hy
    rcases hy with rfl | rfl
    · exact frc_isN _ _
    · exact nm_isN _
  · refine allN_of fun y hy => ?_
    simp only [List.mem_cons, List.not_mem_nil, or_false] at hy
    rcases hy with rfl | rfl
    · exact nm_isN _
    · exact frc_isN _ _⟩
theorem namedT_all (s : ByteArray) : AllT (namedT s) := by
  unfold namedT
  exact allT_ite (allT_sq _ _ _ _ _) (allT_ite gaussT_all (allT_ite (allT_sq _ _ _ _ _) (allT_ite (allT_sq _ _ _ _ _) (allT_ite (allT_sq _ _ _ _ _) (allT_ite (allT_sq _ _ _ _ _) (allT_ite (allT_sq _ _ _ _ _) (allT_ite (allT_sq _ _ _ _ _) (allT_ite (allT_sq _ _ _ _ _) (allT_ite (allT_sq _ _ _ _ _) (allT_ite (allT_sq _ _ _ _ _) (allT_sq _ _ _ _ _)))))))))))
theorem tab_sq {n : Nat} {x : TabD} (h0 : 1 ≤ n) (h8 : n ≤ 8) (h : Sq n x) (ha : AllT x) : Tab x :=
  ⟨by have := h.2.2; omega, by have := h.2.2; omega, by rw [h.1, h.2.2], ha.1, fun r hr => ⟨by rw [h.2.1 r hr, h.2.2], ha.2 r hr⟩⟩
theorem Drew.then0 {sb : Nat} {a b c : World} (h : Drew sb a b) (h' : Chg 0 0 b c) : Drew sb a c := ⟨h.src.chg h' (Or.inr rfl), h.chg.trans h'.none⟩
theorem Drew.thenBut {sb n : Nat} {a b c : World} (h : Drew sb a b) (h' : But n b c) (h1 : sb < n) (h2 : a.heap.size ≤ n) : Drew sb a c :=
  ⟨h.src.chg h'.chg (Or.inl h1), h.chg.thenBelow (h'.below h2)⟩
theorem Below.chg {m n : Nat} {a b : World} (h : Below m a b) (hn : a.heap.size ≤ n) : Chg m n a b := ⟨h.os, h.tape, h.output, h.size, fun k hk hd => h.block k (by omega)⟩
end Go.Fw
namespace Go.Proofs
open Go Go.Fw Go.RowKit Go.Rk
set_option maxHeartbeats 2000000 in
theorem l09Draw_tab {sb : Nat} {w : World} (h : Srce sb w) (most : Nat) (hm0 : 1 ≤ most) (hm1 : most ≤ 8) :
    Does Tryz.prog 38 [.pointer (some ⟨sb, 0, none⟩), .int .i64 (most : Nat)] w fun r w' => (∃ x, Tab x ∧ OwT 25 2 w.heap.size w'.heap.size w' r x) ∧ Drew sb w w' := by
  have hlt := h.lt
  refine Does.enter Tryz.func38 Tryz.ntmps38 rfl (by rfl) ?_
  repeat' (first|refine X.O ?_|refine X.A ?_|refine X.B ?_|refine X.C ?_|refine X.D ?_|refine X.E ?_|refine X.F ?_|refine X.G ?_|refine X.H ?_|refine X.I ?_|fail)
  refine WL.step (o_alloc ?_)
  intro w1 hb1 hbl1 hz1
  have hd1 : Drew sb w w1 := (Drew.refl h).thenBelow hbl1 hlt
  repeat' (first|refine X.A ?_|refine X.B ?_|refine X.C ?_|refine X.D ?_|refine X.E ?_|refine WL.nil ?_|refine thenN ?_|refine WP.seq ?_|refine WP.block ?_|refine thenR ?_|refine thenX ?_|refine blkN ?_|refine X.F ?_|refine blkR ?_|refine X.G ?_|refine WP.ret ?_|refine WP.exit ?_|refine WP.skip ?_|refine WP.label ?_|refine X.H ?_|refine X.I ?_|fail)
  refine WP.mid (fun l w2 => ∃ b, Agree l [(0, .pointer (some ⟨sb, 0, none⟩)), (1, .int .i64 (most : Nat)), (4, .pointer (some ⟨w.heap.size, 0, none⟩)), (20, .bool b)] ∧ Drew sb w1 w2) ?_ ?_
  · repeat' (first|refine X.O ?_|refine X.A ?_|refine X.B ?_|refine X.C ?_|refine X.D ?_|refine X.E ?_|refine X.F ?_|refine X.G ?_|refine X.H ?_|refine X.I ?_|fail)
    first | refine WL.gsplitD (by rfl) (by rfl) (by rfl) (fun _ => ?_) (fun _ => ?_) | refine WL.gsplitND (by rfl) (by rfl) (by rfl) (fun _ => ?_) (fun _ => ?_) | refine WL.gsplitN (by rfl) (by rfl) (by rfl) (fun _ => ?_) (fun _ => ?_) | refine WL.gsplit (by rfl) (by rfl) (by rfl) (fun _ => ?_) (fun _ => ?_) | fail
    · repeat' (first|refine X.O ?_|refine X.A ?_|refine X.B ?_|refine X.C ?_|refine X.D ?_|refine X.E ?_|refine X.F ?_|refine X.G ?_|refine X.H ?_|refine X.I ?_|fail)
      refine WL.call (l01Next_any hd1.src 2 (by omega)) ?_
      rintro _ w2 ⟨⟨y, rfl, _, hy⟩, hdr⟩
      repeat' (first|refine X.O ?_|refine X.A ?_|refine X.B ?_|refine X.C ?_|refine X.D ?_|refine X.E ?_|refine X.F ?_|refine X.G ?_|refine X.H ?_|refine X.I ?_|fail)
      exact ⟨_, ⟨rfl, rfl, rfl, rfl, trivial⟩, hdr⟩
    · repeat' (first|refine X.O ?_|refine X.A ?_|refine X.B ?_|refine X.C ?_|refine X.D ?_|refine X.E ?_|refine X.F ?_|refine X.G ?_|refine X.H ?_|refine X.I ?_|fail)
      exact ⟨_, ⟨rfl, rfl, rfl, rfl, trivial⟩, Drew.refl hd1.src⟩
  rintro l2 w2 ⟨b, hag, hdr2⟩
  refine WP.frame _ hag ?_
  have hz2 := hdr2.chg.size
  have hb2 := hb1.chg hdr2.chg (by omega)
  have hd2 := hd1.trans hdr2
  repeat' (first|refine X.O ?_|refine X.A ?_|refine X.B ?_|refine X.C ?_|refine X.D ?_|refine X.E ?_|refine X.F ?_|refine X.G ?_|refine X.H ?_|refine X.I ?_|fail)
  refine WP.cond (by rfl) (fun _ => ?_) (fun _ => ?_)
  · repeat' (first|refine X.O ?_|refine X.A ?_|refine X.B ?_|refine X.C ?_|refine X.D ?_|refine X.E ?_|refine X.F ?_|refine X.G ?_|refine X.H ?_|refine X.I ?_|fail)
    refine WL.call (sTableauNames_any _) ?_
    rintro v3 w3 ⟨hV3, hc3⟩
    have hz3 := hc3.size
    have hd3 := hd2.then0 hc3
    obtain ⟨a3, c3, hv3, _⟩ := hV3.own.shape
    rw [namesV_len] at hv3
    subst hv3
    repeat' (first|refine X.O ?_|refine X.A ?_|refine X.B ?_|refine X.C ?_|refine X.D ?_|refine X.E ?_|refine X.F ?_|refine X.G ?_|refine X.H ?_|refine X.I ?_|fail)
    refine WL.call (l01Next_any hd3.src 12 (by omega)) ?_
    rintro _ w4 ⟨⟨y, rfl, _, hy⟩, hdr4⟩
    have hy := hy (by omega)
    have hz4 := hdr4.chg.size
    have hd4 := hd3.trans hdr4
    have hyl : y.toNat < namesV.length := by rw [namesV_len]; omega
    refine WL.ixload (R := RV) (j := y.toNat) (SL.chg RV.stable hV3.rd hdr4.chg (by omega)) (List.getElem?_eq_getElem hyl) ?_
    rintro p u rfl
    obtain ⟨s, hs⟩ := namesV_str _ (List.getElem_mem hyl)
    rw [hs]
    refine WL.call (l09Named_any s _) ?_
    rintro v5 w5 ⟨hT5, hc5⟩
    have hz5 := hc5.size
    have hd5 := hd4.then0 hc5
    have hb5 := ((hb2.chg0 hc3).chg hdr4.chg (by omega)).chg0 hc5
    obtain ⟨a, n, c, a', n', c', rfl⟩ := hT5.cells
    refine WL.step (o_storeS (vs := [.slice a n c, .slice a' n' c']) (by rfl) (by rfl) hb5 (by rfl) (by rfl) two_cells ?_)
    intro w6 hb6 hbut6
    have hz6 := hbut6.size
    repeat' (first|refine X.O ?_|refine X.A ?_|refine X.B ?_|refine X.C ?_|refine X.D ?_|refine X.E ?_|refine X.F ?_|refine X.G ?_|refine X.H ?_|refine X.I ?_|fail)
    obtain ⟨m, hm0', hm1', hsq⟩ := namedT_sq s
    refine ⟨_, retS rfl (by rfl) hb6 (by rfl), ⟨namedT s, tab_sq hm0' (by omega) hsq (namedT_all s), ?_⟩, hd5.thenBut hbut6 hlt (Nat.le_refl _)⟩
    exact (hT5.chg hbut6.chg (by omega)).wide (by omega) (by omega) (Nat.le_refl _)
  repeat' (first|refine X.O ?_|refine X.A ?_|refine X.B ?_|refine X.C ?_|refine X.D ?_|refine X.E ?_|refine X.F ?_|refine X.G ?_|refine X.H ?_|refine X.I ?_|fail)
  refine WL.call (l01Next_any hd2.src (most : Nat) (by omega)) ?_
  rintro _ w3 ⟨⟨y, rfl, _, hy⟩, hdr3⟩
  have hy := hy (by omega)
  obtain ⟨n, hn⟩ : ∃ n : Nat, 1 + y = (n : Int) := ⟨(1 + y).toNat, by omega⟩
  have hn0 : 1 ≤ n := by omega
  have hn1 : n ≤ 8 := by omega
  have hd3 := hd2.trans hdr3
  repeat' (first|refine X.O ?_|refine X.A ?_|refine X.B ?_|refine X.C ?_|refine X.D ?_|refine X.E ?_|refine X.F ?_|refine X.G ?_|refine X.H ?_|refine X.I ?_|fail)
  rw [hn]
  refine WL.call (l01Next_any hd3.src 3 (by omega)) ?_
  rintro _ w4 ⟨⟨z, rfl, _, hz⟩, hdr4⟩
  have hd4 := hd3.trans hdr4
  repeat' (first|refine X.O ?_|refine X.A ?_|refine X.B ?_|refine X.C ?_|refine X.D ?_|refine X.E ?_|refine X.F ?_|refine X.G ?_|refine X.H ?_|refine X.I ?_|fail)
  refine WL.call (l01List_any hd4.src n (by omega)) ?_
  rintro vb w5 ⟨⟨xb, hB5, hxl, hxa⟩, hdr5⟩
  have hd5 := hd4.trans hdr5
  have hz3 := hdr3.chg.size
  have hz4 := hdr4.chg.size
  have hz5 := hdr5.chg.size
  have hb5 := ((hb2.chg hdr3.chg (by omega)).chg hdr4.chg (by omega)).chg hdr5.chg (by omega)
  obtain ⟨ab, cb, hvb, _⟩ := hB5.own.shape
  rw [Ints_length, hxl] at hvb
  subst hvb
  refine WL.step (o_build (us := [.slice ab n cb]) (cells := [.slice none 0 0, .slice ab n cb]) (by rfl) (by rfl) ?_)
  refine WL.var (vs := [.slice none 0 0, .slice ab n cb]) (fun _ => by rfl) (by rfl) two_cells ?_
  intro w6 hb6 hbl6 hz6
  obtain ⟨b8, hb8⟩ : ∃ b8, w5.heap.size = b8 := ⟨_, rfl⟩
  rw [hb8] at hb6 hbl6 hz6 ⊢
  have hd6 : Drew sb w w6 := hd5.thenBelow (Below.mono hbl6 (by omega)) hlt
  obtain ⟨c4, hc4⟩ : ∃ c4, w4.heap.size = c4 := ⟨_, rfl⟩
  have hc4' : w.heap.size + 1 ≤ c4 := by omega
  rw [hc4] at hB5
  have hB6 : OwI 2 c4 b8 w6 (.slice ab n cb) xb := ⟨hB5.own.below hbl6 (by omega), fun k hk => by have := hB5.lt k hk; omega, by omega⟩
  have hb46 := hb5.below hbl6 (by omega)
  repeat' (first|refine X.O ?_|refine X.A ?_|refine X.B ?_|refine X.C ?_|refine X.D ?_|refine X.E ?_|refine X.F ?_|refine X.G ?_|refine X.H ?_|refine X.I ?_|fail)
  refine WP.loop (fun (s : Nat × Value) => [(0, .pointer (some ⟨sb, 0, none⟩)), (4, .pointer (some ⟨w.heap.size, 0, none⟩)), (6, .int .i64 (n : Nat)), (7, .int .i64 z), (8, .pointer (some ⟨b8, 0, none⟩)), (9, .int .i64 (s.1 : Nat))])
    (fun s w7 => s.1 ≤ n ∧ s.2.oneCell' = true ∧ Blk w7 b8 [s.2, .slice ab n cb] 27 ∧ Blk w7 w.heap.size [.slice none 0 0, .slice none 0 0] 27 ∧ (∃ vs rows, rows.length = s.1 ∧ (∀ r ∈ rows, r.length = n ∧ allN r = true) ∧ OwSSv 25 2 (b8 + 1) w7.heap.size w7 s.2 vs rows) ∧ OwI 2 c4 b8 w7 (.slice ab n cb) xb ∧ Drew sb w w7 ∧ b8 + 1 ≤ w7.heap.size)
    (fun s => n - s.1) (0, .slice none 0 0) ⟨rfl, rfl, rfl, rfl, rfl, rfl, trivial⟩ ⟨by dsimp only; omega, rfl, hb6, hb46, ⟨[], [], rfl, fun r hr => (by simp at hr), OwSSv.none (Own.nil _ _ _) (by decide)⟩, hB6, hd6, by omega⟩ ?_
  rintro ⟨i, vo⟩ w7 ⟨hi1, hone, hb7, hb47, ⟨vs, rows, hrl, hrn, oA⟩, hB7, hd7, hz7⟩
  dsimp only at hi1 hone hb7 hrl oA ⊢
  have hvl : vs.length = i := by rw [oA.len, hrl]
  repeat' (first|refine X.O ?_|refine X.A ?_|refine X.B ?_|refine X.C ?_|refine X.D ?_|refine X.E ?_|refine X.F ?_|refine X.G ?_|refine X.H ?_|refine X.I ?_|fail)
  first|refine X.J (fun _ => ?_) (fun _ => ?_)|refine X.L (fun _ => ?_) (fun _ => ?_)|refine X.M (fun _ => ?_) (fun _ => ?_)|refine X.R (fun _ => ?_) (fun _ => ?_)|fail
  · rename_i hlti
    have hli : i < n := by omega
    repeat' (first|refine X.O ?_|refine X.A ?_|refine X.B ?_|refine X.C ?_|refine X.D ?_|refine X.E ?_|refine X.F ?_|refine X.G ?_|refine X.H ?_|refine X.I ?_|fail)
    refine WL.call (l01List_any hd7.src n (by omega)) ?_
    rintro vr w8 ⟨⟨xr, hR8, hxrl, hxra⟩, hdr8⟩
    have hz8 := hdr8.chg.size
    obtain ⟨ar, cr, hvr, _⟩ := hR8.own.shape
    rw [Ints_length, hxrl] at hvr
    subst hvr
    repeat' (first|refine X.O ?_|refine X.A ?_|refine X.B ?_|refine X.C ?_|refine X.D ?_|refine X.E ?_|refine X.F ?_|refine X.G ?_|refine X.H ?_|refine X.I ?_|fail)
    refine WP.loop (fun (k : Nat) => [(0, .pointer (some ⟨sb, 0, none⟩)), (4, .pointer (some ⟨w.heap.size, 0, none⟩)), (6, .int .i64 (n : Nat)), (7, .int .i64 z), (8, .pointer (some ⟨b8, 0, none⟩)), (9, .int .i64 (i : Nat)), (10, .slice ar n cr), (11, .int .i64 (k : Nat))])
      (fun k w9 => k ≤ n ∧ (∃ ys, ys.length = n ∧ allN ys = true ∧ Own w7.heap.size 2 w9 (.slice ar n cr) (Ints ys)) ∧ Below w7.heap.size w8 w9 ∧ w9.heap.size = w8.heap.size)
      (fun k => n - k) 0 ⟨rfl, rfl, rfl, rfl, rfl, rfl, rfl, rfl, trivial⟩ ⟨by omega, ⟨xr, hxrl, hxra, hR8.own⟩, Below.refl _ _, rfl⟩ ?_
    rintro k w9 ⟨hk1, ⟨ys, hyl, hya, hown9⟩, hbl9, hz9⟩
    repeat' (first|refine X.O ?_|refine X.A ?_|refine X.B ?_|refine X.C ?_|refine X.D ?_|refine X.E ?_|refine X.F ?_|refine X.G ?_|refine X.H ?_|refine X.I ?_|fail)
    first|refine X.J (fun _ => ?_) (fun _ => ?_)|refine X.L (fun _ => ?_) (fun _ => ?_)|refine X.M (fun _ => ?_) (fun _ => ?_)|refine X.R (fun _ => ?_) (fun _ => ?_)|fail
    · rename_i hltk
      have hlk : k < n := by omega
      repeat' (first|refine X.A ?_|refine X.B ?_|refine X.C ?_|refine X.D ?_|refine X.E ?_|refine WL.nil ?_|refine thenN ?_|refine WP.seq ?_|refine WP.block ?_|refine thenR ?_|refine thenX ?_|refine blkN ?_|refine X.F ?_|refine blkR ?_|refine X.G ?_|refine WP.ret ?_|refine WP.exit ?_|refine WP.skip ?_|refine WP.label ?_|refine X.H ?_|refine X.I ?_|fail)
      refine WP.mid (fun l w10 => (∃ b, Agree l [(0, .pointer (some ⟨sb, 0, none⟩)), (4, .pointer (some ⟨w.heap.size, 0, none⟩)), (6, .int .i64 (n : Nat)), (7, .int .i64 z), (8, .pointer (some ⟨b8, 0, none⟩)), (9, .int .i64 (i : Nat)), (10, .slice ar n cr), (11, .int .i64 (k : Nat)), (68, .bool b)]) ∧ w10 = w9) ?_ ?_
      · repeat' (first|refine X.O ?_|refine X.A ?_|refine X.B ?_|refine X.C ?_|refine X.D ?_|refine X.E ?_|refine X.F ?_|refine X.G ?_|refine X.H ?_|refine X.I ?_|fail | (first | refine WL.gsplitD (by rfl) (by rfl) (by rfl) (fun _ => ?_) (fun _ => ?_) | refine WL.gsplitND (by rfl) (by rfl) (by rfl) (fun _ => ?_) (fun _ => ?_) | refine WL.gsplitN (by rfl) (by rfl) (by rfl) (fun _ => ?_) (fun _ => ?_) | refine WL.gsplit (by rfl) (by rfl) (by rfl) (fun _ => ?_) (fun _ => ?_) | fail) | (first|refine X.J (fun _ => ?_) (fun _ => ?_)|refine X.L (fun _ => ?_) (fun _ => ?_)|refine X.M (fun _ => ?_) (fun _ => ?_)|refine X.R (fun _ => ?_) (fun _ => ?_)|fail))
        all_goals exact ⟨⟨_, ⟨rfl, rfl, rfl, rfl, rfl, rfl, rfl, rfl, rfl, trivial⟩⟩, rfl⟩
      rintro l10 w10 ⟨⟨b, hag⟩, rfl⟩
      refine WP.frame _ hag ?_
      repeat' (first|refine X.O ?_|refine X.A ?_|refine X.B ?_|refine X.C ?_|refine X.D ?_|refine X.E ?_|refine X.F ?_|refine X.G ?_|refine X.H ?_|refine X.I ?_|fail)
      refine WP.cond (by rfl) (fun _ => ?_) (fun _ => ?_)
      · repeat' (first|refine X.O ?_|refine X.A ?_|refine X.B ?_|refine X.C ?_|refine X.D ?_|refine X.E ?_|refine X.F ?_|refine X.G ?_|refine X.H ?_|refine X.I ?_|fail)
        refine WL.ixstore (j := k) hown9 (by rw [Ints_length]; omega) ?_
        intro p w11 hown11 hbl11 hz11 _
        repeat' (first|refine X.O ?_|refine X.A ?_|refine X.B ?_|refine X.C ?_|refine X.D ?_|refine X.E ?_|refine X.F ?_|refine X.G ?_|refine X.H ?_|refine X.I ?_|fail)
        refine ⟨k + 1, ⟨rfl, rfl, rfl, rfl, rfl, rfl, rfl, (by first|rfl|exact X.T (by omega)), trivial⟩, ⟨by omega, ⟨ys.set k 0, by simp [hyl], allN_set hya k 0 (isN_of ⟨by omega, by omega⟩), ?_⟩, hbl9.trans hbl11, by omega⟩, by omega⟩
        rw [Ints_set] at hown11
        exact hown11
      · repeat' (first|refine X.O ?_|refine X.A ?_|refine X.B ?_|refine X.C ?_|refine X.D ?_|refine X.E ?_|refine X.F ?_|refine X.G ?_|refine X.H ?_|refine X.I ?_|fail)
        exact ⟨k + 1, ⟨rfl, rfl, rfl, rfl, rfl, rfl, rfl, (by first|rfl|exact X.T (by omega)), trivial⟩, ⟨by omega, ⟨ys, hyl, hya, hown9⟩, hbl9, hz9⟩, by omega⟩
    · rename_i hgek
      have hc9 : Chg w7.heap.size w8.heap.size w8 w9 := Below.chg hbl9 (Nat.le_refl _)
      have hd9 : Drew sb w w9 := (hd7.trans hdr8).thenBelow (Below.mono hbl9 (by have := hd7.chg.size; omega)) hlt
      have hb9 := (hb7.chg hdr8.chg (by omega)).chg hc9 (by omega)
      have hb49 := (hb47.chg hdr8.chg (by omega)).chg hc9 (by have := hd7.chg.size; omega)
      have oA9 := (oA.chg hdr8.chg (by omega)).chg hc9 (by omega)
      have hB9 := (hB7.chg hdr8.chg (by omega)).chg hc9 (by omega)
      have hR9 : OwI 2 w7.heap.size w9.heap.size w9 (.slice ar n cr) ys := ⟨hown9, fun k hk => (hown9.block k hk).2, Nat.le_refl _⟩
      repeat' (first|refine X.O ?_|refine X.A ?_|refine X.B ?_|refine X.C ?_|refine X.D ?_|refine X.E ?_|refine X.F ?_|refine X.G ?_|refine X.H ?_|refine X.I ?_|fail)
      refine WL.fld hb9 ?_
      intro p1
      repeat' (first|refine X.O ?_|refine X.A ?_|refine X.B ?_|refine X.C ?_|refine X.D ?_|refine X.E ?_|refine X.F ?_|refine X.G ?_|refine X.H ?_|refine X.I ?_|fail)
      refine o_append1 (u := .slice ar n cr) (fun _ => by rfl) (by rfl) oA9.own rfl (by simp [hvl, maxLen]; omega) (by simp [hvl]; omega) (by omega) ?_
      intro p2 v10 w10 hown10 hbl10 hf10 hz10 _
      have o10 := oA9.snoc hR9 (by omega) (by omega) hown10 (by omega) hf10
      obtain ⟨a10, n10, c10, rfl⟩ : ∃ a n c, v10 = Value.slice a n c := by obtain ⟨a, c, h, _⟩ := hown10.shape; exact ⟨_, _, _, h⟩
      refine WL.fldst (hb9.below hbl10 (by omega)) ?_
      intro p3 w11 hb11 hbut11
      have hz11 := hbut11.size
      repeat' (first|refine X.O ?_|refine X.A ?_|refine X.B ?_|refine X.C ?_|refine X.D ?_|refine X.E ?_|refine X.F ?_|refine X.G ?_|refine X.H ?_|refine X.I ?_|fail)
      refine ⟨(i + 1, .slice a10 n10 c10), ⟨rfl, rfl, rfl, rfl, rfl, (by first|rfl|exact X.T (by omega)), trivial⟩, ⟨by dsimp only; omega, rfl, hb11, (hb49.below hbl10 (by omega)).chg hbut11.chg (by omega), ⟨_, _, ?_, ?_, o10.chg hbut11.chg (by omega) |>.wide (Nat.le_refl _) (by omega) (Nat.le_refl _)⟩, (hB9.chg (Below.chg hbl10 (Nat.le_refl _)) (by omega)).chg hbut11.chg (by omega), (hd9.thenBelow (Below.mono hbl10 (by omega)) hlt).thenBut hbut11 (by omega) (by omega), by omega⟩, by dsimp only; omega⟩
      · simp [hrl]
      · intro r hr
        rcases List.mem_append.1 hr with hr | hr
        · exact hrn r hr
        · rw [List.mem_singleton.1 hr]; exact ⟨hyl, hya⟩
  rename_i hgei
  have hie : i = n := by omega
  subst hie
  repeat' (first|refine X.O ?_|refine X.A ?_|refine X.B ?_|refine X.C ?_|refine X.D ?_|refine X.E ?_|refine X.F ?_|refine X.G ?_|refine X.H ?_|refine X.I ?_|fail)
  refine WL.call (l01Next_any hd7.src 2 (by omega)) ?_
  rintro _ w8 ⟨⟨z2, rfl, _, _⟩, hdr8⟩
  have hz8 := hdr8.chg.size
  have hd8 := hd7.trans hdr8
  have hb8' := hb7.chg hdr8.chg (by omega)
  have hb48 := hb47.chg hdr8.chg (by omega)
  have oA8 := (oA.chg hdr8.chg (by omega)).wide (Nat.le_refl _) hz8 (Nat.le_refl _)
  have hB8 := hB7.chg hdr8.chg (by omega)
  have hsz7 := hd7.chg.size
  repeat' (first|refine X.A ?_|refine X.B ?_|refine X.C ?_|refine X.D ?_|refine X.E ?_|refine WL.nil ?_|refine thenN ?_|refine WP.seq ?_|refine WP.block ?_|refine thenR ?_|refine thenX ?_|refine blkN ?_|refine X.F ?_|refine blkR ?_|refine X.G ?_|refine WP.ret ?_|refine WP.exit ?_|refine WP.skip ?_|refine WP.label ?_|refine X.H ?_|refine X.I ?_|fail)
  refine WP.mid (fun l w9 => Agree l [(4, .pointer (some ⟨w.heap.size, 0, none⟩)), (8, .pointer (some ⟨b8, 0, none⟩))] ∧ Blk w9 b8 [vo, .slice ab i cb] 27 ∧ Blk w9 w.heap.size [.slice none 0 0, .slice none 0 0] 27 ∧ OwSSv 25 2 (b8 + 1) w9.heap.size w9 vo vs rows ∧ (∃ ys, ys.length = i ∧ allN ys = true ∧ OwI 2 c4 b8 w9 (.slice ab i cb) ys) ∧ Drew sb w w9 ∧ b8 + 1 ≤ w9.heap.size) ?_ ?_
  · first|refine X.J (fun _ => ?_) (fun _ => ?_)|refine X.L (fun _ => ?_) (fun _ => ?_)|refine X.M (fun _ => ?_) (fun _ => ?_)|refine X.R (fun _ => ?_) (fun _ => ?_)|fail
    · repeat' (first|refine X.O ?_|refine X.A ?_|refine X.B ?_|refine X.C ?_|refine X.D ?_|refine X.E ?_|refine X.F ?_|refine X.G ?_|refine X.H ?_|refine X.I ?_|fail)
      refine WP.loop (fun (s : Nat × Int) => [(4, .pointer (some ⟨w.heap.size, 0, none⟩)), (6, .int .i64 (i : Nat)), (8, .pointer (some ⟨b8, 0, none⟩)), (12, .int .i64 s.2), (13, .int .i64 (s.1 : Nat))])
        (fun s w9 => 0 ≤ s.2 ∧ s.2 ≤ 10006 ∧ Still w8 w9) (fun s => i - s.1) (1, 0) ⟨rfl, rfl, rfl, rfl, rfl, trivial⟩ ⟨by dsimp only; omega, by dsimp only; omega, Still.refl _⟩ ?_
      rintro ⟨k, sum⟩ w9 ⟨hs0, hs1, hst9⟩
      dsimp only at hs0 hs1 ⊢
      repeat' (first|refine X.O ?_|refine X.A ?_|refine X.B ?_|refine X.C ?_|refine X.D ?_|refine X.E ?_|refine X.F ?_|refine X.G ?_|refine X.H ?_|refine X.I ?_|fail)
      first|refine X.J (fun _ => ?_) (fun _ => ?_)|refine X.L (fun _ => ?_) (fun _ => ?_)|refine X.M (fun _ => ?_) (fun _ => ?_)|refine X.R (fun _ => ?_) (fun _ => ?_)|fail
      · rename_i hltk
        have hlk : k < xb.length := by omega
        have hxk := allN_get hxa hlk
        repeat' (first|refine X.O ?_|refine X.A ?_|refine X.B ?_|refine X.C ?_|refine X.D ?_|refine X.E ?_|refine X.F ?_|refine X.G ?_|refine X.H ?_|refine X.I ?_|fail)
        refine WL.fld (hb8'.still hst9) ?_
        intro p1
        repeat' (first|refine X.O ?_|refine X.A ?_|refine X.B ?_|refine X.C ?_|refine X.D ?_|refine X.E ?_|refine X.F ?_|refine X.G ?_|refine X.H ?_|refine X.I ?_|fail)
        refine WL.ixload (j := k) (hB8.rd.still RI.stable hst9) (List.getElem?_eq_getElem hlk) ?_
        rintro p2 _ rfl
        refine WL.call (l01Add_any sum xb[k] _ (by unfold InI; omega)) ?_
        rintro _ _ ⟨rfl, rfl⟩
        have hb := nm_bd (sum + xb[k])
        repeat' (first|refine X.O ?_|refine X.A ?_|refine X.B ?_|refine X.C ?_|refine X.D ?_|refine X.E ?_|refine X.F ?_|refine X.G ?_|refine X.H ?_|refine X.I ?_|fail)
        exact ⟨(k + 1, nm (sum + xb[k])), ⟨rfl, rfl, rfl, rfl, (by first|rfl|exact X.T (by omega)), trivial⟩, ⟨hb.1, hb.2, hst9⟩, by dsimp only; omega⟩
      · rename_i hgek
        repeat' (first|refine X.A ?_|refine X.B ?_|refine X.C ?_|refine X.D ?_|refine X.E ?_|refine WL.nil ?_|refine thenN ?_|refine WP.seq ?_|refine WP.block ?_|refine thenR ?_|refine thenX ?_|refine blkN ?_|refine X.F ?_|refine blkR ?_|refine X.G ?_|refine WP.ret ?_|refine WP.exit ?_|refine WP.skip ?_|refine WP.label ?_|refine X.H ?_|refine X.I ?_|fail)
        refine WP.drawn (fun w' => Still w8 w') [(0, true), (1, true), (2, true), (3, false), (4, true), (1005, false)] (by kernel_rfl) mixed ?_
        intro w9' h9'
        replace hst9 := hst9.trans h9'
        clear h9'
        refine WS.fld rfl rfl (fun w' h => hb8'.still h) hst9 ?_
        intro p1
        repeat' (first|refine X.U rfl ?_|refine X.V rfl ?_|refine X.W rfl ?_|refine X.Y rfl ?_|refine X.Z rfl ?_|refine WS.nil ?_|fail)
        refine WS.call rfl (l01Sub_any 1 sum _ (by unfold InI; omega)) ?_
        rintro _ _ ⟨rfl, rfl⟩
        refine ⟨hst9, ?_⟩
        refine WS.ixstore (j := 0) rfl rfl hst9 (hB8.own.still hst9) (by rw [Ints_length]; omega) ?_
        intro p2 w10 hown10 hbl10 hz10 hf10
        refine WS.nil ?_
        have hz9 := hst9.size
        have hg : ∀ k, k < c4 ∨ b8 ≤ k → w10.heap[k]? = w9'.heap[k]? := fun k hk => hf10 k fun e => by
          have a1 := hB8.lt k e
          have a2 := (hB8.own.block k e).1
          omega
        have hc10 : Chg c4 b8 w9' w10 := ⟨hbl10.os, hbl10.tape, hbl10.output, by omega, fun k _ hk => hg k hk⟩
        repeat' (first|refine X.O ?_|refine X.A ?_|refine X.B ?_|refine X.C ?_|refine X.D ?_|refine X.E ?_|refine X.F ?_|refine X.G ?_|refine X.H ?_|refine X.I ?_|fail)
        refine ⟨⟨rfl, rfl, trivial⟩, (hb8'.still hst9).chg hc10 (by omega), (hb48.still hst9).chg hc10 (by omega), ((oA8.chg (Chg.of_still hst9) (by omega)).chg hc10 (by omega)).wide (Nat.le_refl _) (by omega) (Nat.le_refl _), ⟨xb.set 0 (nm (1 - sum)), by simp [hxl], allN_set hxa 0 _ (nm_isN _), ?_⟩, ?_, by omega⟩
        · exact ⟨by rw [Ints_set] at hown10; exact hown10, hB8.lt, by omega⟩
        · exact (hd8.then0 (Chg.of_still hst9)).thenBelow (Below.mono hbl10 (by omega)) (by omega)
    · repeat' (first|refine X.O ?_|refine X.A ?_|refine X.B ?_|refine X.C ?_|refine X.D ?_|refine X.E ?_|refine X.F ?_|refine X.G ?_|refine X.H ?_|refine X.I ?_|fail)
      exact ⟨⟨rfl, rfl, trivial⟩, hb8', hb48, oA8, ⟨xb, hxl, hxa, hB8⟩, hd8, by omega⟩
  rintro l9 w9 ⟨hag, hb9, hb49, oA9, ⟨ys, hyl, hya9, hB9⟩, hd9, hz9b⟩
  refine WP.frame _ hag ?_
  have hz9 := hd9.chg.size
  have hhi := oA9.hi_le
  repeat' (first|refine X.O ?_|refine X.A ?_|refine X.B ?_|refine X.C ?_|refine X.D ?_|refine X.E ?_|refine X.F ?_|refine X.G ?_|refine X.H ?_|refine X.I ?_|fail)
  obtain ⟨ao, no, co, rfl⟩ : ∃ a n c, vo = Value.slice a n c := by obtain ⟨a, c, h, _⟩ := oA9.own.shape; exact ⟨_, _, _, h⟩
  refine WL.step (o_loadS (by rfl) hb9 (by rfl) ?_)
  refine WL.step (o_storeS (vs := [.slice ao no co, .slice ab i cb]) (by rfl) (by rfl) hb49 (by rfl) (by rfl) two_cells ?_)
  intro w10 hb10 hbut10
  have hz10 := hbut10.size
  repeat' (first|refine X.O ?_|refine X.A ?_|refine X.B ?_|refine X.C ?_|refine X.D ?_|refine X.E ?_|refine X.F ?_|refine X.G ?_|refine X.H ?_|refine X.I ?_|fail)
  refine ⟨_, retS rfl (by rfl) hb10 (by rfl), ⟨(rows, ys), tab_sq hn0 hn1 ⟨hrl, fun r hr => (hrn r hr).1, hyl⟩ ⟨hya9, fun r hr => (hrn r hr).2⟩, ?_⟩, hd9.thenBut hbut10 hlt (Nat.le_refl _)⟩
  exact OwT.mk' (m := b8) ⟨vs, ((oA9.chg hbut10.chg (by omega)).wide (by omega) (by omega) (by omega))⟩ ((hB9.chg hbut10.chg (by omega)).wide (by omega) (Nat.le_refl _) (by omega)) (by omega) (by omega)
theorem l09Draw_any {sb : Nat} {w : World} (h : Srce sb w) (most : Nat) (hm0 : 1 ≤ most) (hm1 : most ≤ 8) :
    Does Tryz.prog 38 [.pointer (some ⟨sb, 0, none⟩), .int .i64 (most : Nat)] w fun r w' => (∃ n x, 1 ≤ n ∧ n ≤ 8 ∧ Sq n x ∧ OwT 25 2 w.heap.size w'.heap.size w' r x) ∧ Drew sb w w' :=
  Calls.mono (l09Draw_tab h most hm0 hm1) fun e w' ⟨r, he, hr⟩ => by
    obtain ⟨⟨x, hx, hO⟩, hd⟩ := hr
    exact ⟨r, he, ⟨x.2.length, x, hx.pos, hx.le8, ⟨hx.sq, fun r hr => (hx.row r hr).1, rfl⟩, hO⟩, hd⟩
end Go.Proofs
