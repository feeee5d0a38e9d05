/- Maps cut off, scaled and compared: AgreeTo, TruncateMap, PartOfMap, ScaleMap, both sides. -/
import Derived.Test.YtncilhecdihmeaaF3
import Derived.Test.YtncilhecdihmeaaE9
set_option maxRecDepth 8000
namespace Go.Rk
open Go.Fw Go.Proofs
def keepL (p : Int → Bool) (a : List Int) : List Int := List.zipWith (fun n x => if p n = true then x else 0) placesN a
theorem keepL_len {p : Int → Bool} {a : List Int} (h : a.length = 38) : (keepL p a).length = 38 := by unfold keepL; rw [List.length_zipWith, placesN_len, h]; rfl
theorem keepL_get {p : Int → Bool} {a : List Int} {i : Nat} (h : i < (keepL p a).length) (h1 : i < placesN.length) (h2 : i < a.length) : (keepL p a)[i] = if p placesN[i] = true then a[i] else 0 := by
  simp only [keepL, List.getElem_zipWith]
def truncateMap (a : List Int) (n : Int) : List Int × Int := if isMap a = true then (if 0 ≤ n ∧ n ≤ 6 then (keepL (fun m => decide (m ≤ n)) a, 0) else ([], 2)) else ([], 1)
def partOfMap (a : List Int) (n : Int) : List Int × Int := if isMap a = true then (if 0 ≤ n ∧ n ≤ 6 then (keepL (fun m => decide (m = n)) a, 0) else ([], 2)) else ([], 1)
theorem truncateMap_len (a : List Int) (n : Int) : (truncateMap a n).1.length ≤ 1000000 := by
  unfold truncateMap
  split
  · rename_i h
    split
    · show (keepL _ a).length ≤ _
      rw [keepL_len (isMap_38 h)]; omega
    · simp
  · simp
theorem partOfMap_len (a : List Int) (n : Int) : (partOfMap a n).1.length ≤ 1000000 := by
  unfold partOfMap
  split
  · rename_i h
    split
    · show (keepL _ a).length ≤ _
      rw [keepL_len (isMap_38 h)]; omega
    · simp
  · simp
def scaleML (a : List Int) (k : Int) : List Int := List.zipWith (fun n x => nm (x * powN k n.toNat)) placesN a
theorem scaleML_len {a : List Int} {k : Int} (h : a.length = 38) : (scaleML a k).length = 38 := by unfold scaleML; rw [List.length_zipWith, placesN_len, h]; rfl
theorem scaleML_get {a : List Int} {k : Int} {i : Nat} (h : i < (scaleML a k).length) (h1 : i < placesN.length) (h2 : i < a.length) : (scaleML a k)[i] = nm (a[i] * powN k placesN[i].toNat) := by
  simp only [scaleML, List.getElem_zipWith]
def scaleMap (a : List Int) (k : Int) : List Int × Int := if isMap a = true then (if isN k = true then (scaleML a k, 0) else ([], 2)) else ([], 1)
theorem scaleMap_len (a : List Int) (n : Int) : (scaleMap a n).1.length ≤ 1000000 := by
  unfold scaleMap
  split
  · rename_i h
    split
    · show (scaleML a n).length ≤ _
      rw [scaleML_len (isMap_38 h)]; omega
    · simp
  · simp
theorem take_fill0 {xs : List Int} {k : Nat} (h : k < xs.length) (h0 : xs[k] = 0) : Ints (xs.take k) ++ List.replicate (xs.length - k) (Value.int .i64 0) = Ints (xs.take (k + 1)) ++ List.replicate (xs.length - (k + 1)) (Value.int .i64 0) := by
  rw [List.take_succ_eq_append_getElem h, Ints_append, h0, List.append_assoc]
  congr 1
  rw [show xs.length - k = (xs.length - (k + 1)) + 1 from by omega, List.replicate_succ]
  rfl
theorem Ints_snocG {xs : List Int} {i : Nat} (h : i < xs.length) : Ints (xs.take (i + 1)) = Ints (xs.take i) ++ [.int .i64 xs[i]] := by rw [List.take_succ_eq_append_getElem h, Ints_append]; rfl
theorem mul_in {a b : Int} (h0 : 0 ≤ a) (h1 : a ≤ 10006) (h2 : 0 ≤ b) (h3 : b ≤ 10006) : InI (a * b) := by
  have h4 := Int.mul_le_mul h1 h3 h2 (by omega)
  have h5 := Int.mul_nonneg h0 h2
  unfold InI; omega
end Go.Rk
namespace Go.Fw
open Go Go.RowKit
section
variable {P : Program} {N : Nat} {Q : Exit → Fr → World → Prop} {l : Fr} {w : World}
/-- An assertion behind a part of the code. -/
theorem WP.midE {c : Code} {K : Fr → World → Prop} (M : Fr → World → Prop) (hx : WP P N c (thenE M Q) l w) (hk : ∀ l w, M l w → K l w) : WP P N c (thenE K Q) l w := fun a ha => by
  refine wp_mono (hx a ha) ?_
  intro e a' w' he
  cases e with
  | normal => obtain ⟨l', hl, hK⟩ := he; exact ⟨l', hl, hk _ _ hK⟩
  | exit id => exact he
  | goto n => exact he
  | ret => exact he
  | panic c => exact he
  | outgrown => exact he
end
/-- All but v's own block is as it was. -/
def SX (v : Value) (w w' : World) : Prop := w.heap.size ≤ w'.heap.size ∧ ∀ k, k < w.heap.size → v.ownBlock ≠ some k → w'.heap[k]? = w.heap[k]?
theorem SX.below {v : Value} {w w' : World} (h : Below w.heap.size w w') : SX v w w' := ⟨h.size, fun k hk _ => h.block k hk⟩
theorem SX.grow {v : Value} {w w1 w2 : World} (h : SX v w w1) (h2 : w1.grownBy w2 v.ownBlock) : SX v w w2 := ⟨Nat.le_trans h.1 h2.size, fun k hk hne => (h2.block k (Nat.lt_of_lt_of_le hk h.1) (fun e => hne e.symm)).trans (h.2 k hk hne)⟩
theorem SX.same {v : Value} {w w1 w2 : World} {lo hi : Nat} (h : SX v w w1) (h2 : SX v w w2) (hz : hi ≤ w.heap.size) (hv : ∀ k, v.ownBlock = some k → k < lo ∨ hi ≤ k) : Same lo hi w1 w2 := fun k h3 h4 =>
  (h2.2 k (by omega) (fun e => by rcases hv k e with h5 | h5 <;> omega)).trans (h.2 k (by omega) (fun e => by rcases hv k e with h5 | h5 <;> omega)).symm
end Go.Fw
namespace Go.Proofs
open Go Go.Fw Go.RowKit Go.Rk
theorem keep_any {lo hi la ha : Nat} {w : World} {vf va cap : Value} {f : FuncId} [FuncTy Try.prog f] {p : Int → Bool} {a : List Int} (hF : FormsI lo hi w vf) (hA : IS la ha w va a) (hal : a.length = 38)
    (hp : ∀ (m : Int) (w' : World), Below w.heap.size w w' → Does Try.prog f [.int .i64 m, cap] w' fun r w'' => r = .bool (p m) ∧ w'' = w') :
    Does Try.prog 36 [vf, va, .func (.func f) #[] #[cap]] w fun r w' => NewI w r w' (keepL p a) := by
  obtain ⟨vt, vc, rfl, hT, _⟩ := hF
  have hzT := hT.hi_le
  have hzA := hA.hi_le
  obtain ⟨aa, ca, hva⟩ := hA.shape
  rw [hal] at hva
  subst hva
  have hkl := keepL_len (p := p) hal
  have hkg := fun i h h1 h2 => keepL_get (p := p) (a := a) (i := i) h h1 h2
  obtain ⟨K, hK⟩ : ∃ K, keepL p a = K := ⟨_, rfl⟩
  rw [hK] at hkl hkg ⊢
  refine Does.enter Try.func36 Try.ntmps36 rfl (by rfl) ?_
  repeat' (first|refine X.O ?_|refine X.A ?_|refine X.B ?_|refine X.C ?_|refine X.D ?_|refine X.E ?_|refine X.F ?_|refine X.G ?_|refine X.H ?_|refine X.I ?_|fail)
  refine WL.step (o_box (by rfl) ?_)
  intro w1 hb1 hbl1 hz1
  have hb1' : Blk w1 w.heap.size [vt, vc] _ := hb1
  repeat' (first|refine X.O ?_|refine X.A ?_|refine X.B ?_|refine X.C ?_|refine X.D ?_|refine X.E ?_|refine X.F ?_|refine X.G ?_|refine X.H ?_|refine X.I ?_|fail)
  refine WL.step (o_make (n := 38) (by rfl) (by rfl) (by omega) (by unfold maxLen; omega) ?_)
  intro v2 w2 hown2 hbl2 hz2
  obtain ⟨a2, c2, hv2, _⟩ := hown2.shape
  rw [List.length_replicate] at hv2
  subst hv2
  have hb12 := hb1'.below hbl2 (by omega)
  repeat' (first|refine X.O ?_|refine X.A ?_|refine X.B ?_|refine X.C ?_|refine X.D ?_|refine X.E ?_|refine X.F ?_|refine X.G ?_|refine X.H ?_|refine X.I ?_|fail)
  refine WP.loop (fun (i : Nat) => [(2, .func (.func f) #[] #[cap]), (3, .pointer (some ⟨w.heap.size, 0, none⟩)), (7, .slice a2 38 c2), (13, .slice aa 38 ca), (14, .int .i64 38), (15, .int .i64 (i : Nat))])
    (fun i w3 => i ≤ 38 ∧ Own w1.heap.size 2 w3 (.slice a2 38 c2) (Ints (K.take i) ++ List.replicate (K.length - i) (.int .i64 0)) ∧ Below w1.heap.size w2 w3)
    (fun i => 38 - i) 0 ⟨rfl, rfl, rfl, rfl, rfl, rfl, trivial⟩ ⟨by omega, by rw [List.take_zero, hkl]; exact hown2, Below.refl _ _⟩ ?_
  rintro i w3 ⟨hi1, hown3, hbl3⟩
  have hz3 := hbl3.size
  have hbl03 : Below w.heap.size w w3 := (hbl1.trans (Below.mono hbl2 (by omega))).trans (Below.mono hbl3 (by omega))
  have hb13 := hb12.below hbl3 (by omega)
  repeat' (first|refine X.O ?_|refine X.A ?_|refine X.B ?_|refine X.C ?_|refine X.D ?_|refine X.E ?_|refine X.F ?_|refine X.G ?_|refine X.H ?_|refine X.I ?_|fail)
  first|refine X.J (fun _ => ?_) (fun _ => ?_)|refine X.L (fun _ => ?_) (fun _ => ?_)|refine X.M (fun _ => ?_) (fun _ => ?_)|refine X.R (fun _ => ?_) (fun _ => ?_)|fail
  · rename_i hlt
    have hli : i < a.length := by omega
    have hlp : i < placesN.length := by rw [placesN_len]; omega
    have hlk : i < K.length := by omega
    have hk := hkg i hlk hlp hli
    repeat' (first|refine X.O ?_|refine X.A ?_|refine X.B ?_|refine X.C ?_|refine X.D ?_|refine X.E ?_|refine X.F ?_|refine X.G ?_|refine X.H ?_|refine X.I ?_|fail)
    refine WL.ixload (j := i) (hA.below RI.stable hbl03 hzA) (List.getElem?_eq_getElem hli) ?_
    rintro p1 _ rfl
    repeat' (first|refine X.O ?_|refine X.A ?_|refine X.B ?_|refine X.C ?_|refine X.D ?_|refine X.E ?_|refine X.F ?_|refine X.G ?_|refine X.H ?_|refine X.I ?_|fail)
    refine WL.step (o_loadS (by rfl) hb13 (by rfl) ?_)
    repeat' (first|refine X.O ?_|refine X.A ?_|refine X.B ?_|refine X.C ?_|refine X.D ?_|refine X.E ?_|refine X.F ?_|refine X.G ?_|refine X.H ?_|refine X.I ?_|fail)
    refine WL.call (nodes_any (vc := vc) (hT.below IS.stable hbl03 hzT) hlp) ?_
    rintro _ w4 ⟨rfl, hbl4⟩
    have hz4 := hbl4.size
    have hbl04 : Below w.heap.size w w4 := hbl03.trans (Below.mono hbl4 (by omega))
    refine WL.step (o_callV (f := f) (fst := []) (cap := [cap]) (by rfl) (vs := [.int .i64 placesN[i]]) (hp _ w4 hbl04) ?_)
    rintro _ _ ⟨rfl, rfl⟩
    have hown4 := hown3.below hbl4 (Nat.le_refl _)
    cases hpb : p placesN[i]
    · rw [hpb] at hk
      rw [if_neg (by decide)] at hk
      rw [take_fill0 hlk hk] at hown4
      repeat' (first|refine X.O ?_|refine X.A ?_|refine X.B ?_|refine X.C ?_|refine X.D ?_|refine X.E ?_|refine X.F ?_|refine X.G ?_|refine X.H ?_|refine X.I ?_|fail)
      exact ⟨i + 1, ⟨rfl, rfl, rfl, rfl, rfl, (by first|rfl|exact X.T (by omega)), trivial⟩, ⟨by omega, hown4, hbl3.trans (Below.mono hbl4 (by omega))⟩, by omega⟩
    · rw [hpb] at hk
      rw [if_pos rfl] at hk
      repeat' (first|refine X.O ?_|refine X.A ?_|refine X.B ?_|refine X.C ?_|refine X.D ?_|refine X.E ?_|refine X.F ?_|refine X.G ?_|refine X.H ?_|refine X.I ?_|fail)
      refine WL.ixstore (j := i) (u := .int .i64 a[i]) hown4 (by rw [List.length_append, Ints_length, List.length_take, List.length_replicate]; omega) ?_
      intro p2 w5 hown5 hbl5 hz5 hf5
      rw [← hk, take_fill K i hlk] at hown5
      repeat' (first|refine X.O ?_|refine X.A ?_|refine X.B ?_|refine X.C ?_|refine X.D ?_|refine X.E ?_|refine X.F ?_|refine X.G ?_|refine X.H ?_|refine X.I ?_|fail)
      exact ⟨i + 1, ⟨rfl, rfl, rfl, rfl, rfl, (by first|rfl|exact X.T (by omega)), trivial⟩, ⟨by omega, hown5, (hbl3.trans (Below.mono hbl4 (by omega))).trans hbl5⟩, by omega⟩
  · rename_i hge
    have hie : i = 38 := by omega
    subst hie
    rw [List.take_of_length_le (by omega), hkl, Nat.sub_self, List.replicate_zero, List.append_nil] at hown3
    repeat' (first|refine X.O ?_|refine X.A ?_|refine X.B ?_|refine X.C ?_|refine X.D ?_|refine X.E ?_|refine X.F ?_|refine X.G ?_|refine X.H ?_|refine X.I ?_|fail)
    refine ⟨_, ret1 rfl (by rfl), ?_⟩
    exact ⟨hown3.lower (by omega), hbl03⟩
theorem scaleMapL_any {lo hi la ha : Nat} {w : World} {vf va : Value} {a : List Int} (hF : FormsI lo hi w vf) (hA : IS la ha w va a) (hal : a.length = 38) (haa : allN a = true) {k : Int} (hk : isN k = true) :
    Does Try.prog 41 [vf, va, .int .i64 k] w fun r w' => NewI w r w' (scaleML a k) := by
  obtain ⟨vt, vc, rfl, hT, _⟩ := hF
  have hzT := hT.hi_le
  have hzA := hA.hi_le
  have hkb := isN_bd hk
  obtain ⟨aa, ca, hva⟩ := hA.shape
  rw [hal] at hva
  subst hva
  have hkl := scaleML_len (k := k) hal
  have hkg := fun i h h1 h2 => scaleML_get (a := a) (k := k) (i := i) h h1 h2
  obtain ⟨K, hK⟩ : ∃ K, scaleML a k = K := ⟨_, rfl⟩
  rw [hK] at hkl hkg ⊢
  refine Does.enter Try.func41 Try.ntmps41 rfl (by rfl) ?_
  repeat' (first|refine X.O ?_|refine X.A ?_|refine X.B ?_|refine X.C ?_|refine X.D ?_|refine X.E ?_|refine X.F ?_|refine X.G ?_|refine X.H ?_|refine X.I ?_|fail)
  refine WL.step (o_box (by rfl) ?_)
  intro w1 hb1 hbl1 hz1
  have hb1' : Blk w1 w.heap.size [vt, vc] _ := hb1
  repeat' (first|refine X.O ?_|refine X.A ?_|refine X.B ?_|refine X.C ?_|refine X.D ?_|refine X.E ?_|refine X.F ?_|refine X.G ?_|refine X.H ?_|refine X.I ?_|fail)
  refine WL.step (o_lit (us := []) (by rfl) (by rfl) rfl (by decide) one0 ?_)
  intro v2 w2 hown2 hbl2 hz2 _
  have hb12 := hb1'.below hbl2 (by omega)
  repeat' (first|refine X.O ?_|refine X.A ?_|refine X.B ?_|refine X.C ?_|refine X.D ?_|refine X.E ?_|refine X.F ?_|refine X.G ?_|refine X.H ?_|refine X.I ?_|fail)
  refine WP.loop (fun (s : Nat × Value) => [(2, .int .i64 k), (3, .pointer (some ⟨w.heap.size, 0, none⟩)), (7, s.2), (11, .slice aa 38 ca), (12, .int .i64 38), (13, .int .i64 (s.1 : Nat))])
    (fun s w3 => s.1 ≤ 38 ∧ Own w1.heap.size 2 w3 s.2 (Ints (K.take s.1)) ∧ Below w1.heap.size w1 w3)
    (fun s => 38 - s.1) (0, v2) ⟨rfl, rfl, rfl, rfl, rfl, rfl, trivial⟩ ⟨by dsimp only; omega, hown2, hbl2⟩ ?_
  rintro ⟨i, vo⟩ w3 ⟨hi1, hown3, hbl3⟩
  dsimp only at hi1 hown3 ⊢
  have hz3 := hbl3.size
  have hbl03 : Below w.heap.size w w3 := hbl1.trans (Below.mono hbl3 (by omega))
  have hb13 := hb1'.below hbl3 (by omega)
  repeat' (first|refine X.O ?_|refine X.A ?_|refine X.B ?_|refine X.C ?_|refine X.D ?_|refine X.E ?_|refine X.F ?_|refine X.G ?_|refine X.H ?_|refine X.I ?_|fail)
  first|refine X.J (fun _ => ?_) (fun _ => ?_)|refine X.L (fun _ => ?_) (fun _ => ?_)|refine X.M (fun _ => ?_) (fun _ => ?_)|refine X.R (fun _ => ?_) (fun _ => ?_)|fail
  · rename_i hlt
    have hli : i < a.length := by omega
    have hlp : i < placesN.length := by rw [placesN_len]; omega
    have hlk : i < K.length := by omega
    have hkk := hkg i hlk hlp hli
    have hpb := places_le hlp
    have hab := allN_get haa hli
    repeat' (first|refine X.O ?_|refine X.A ?_|refine X.B ?_|refine X.C ?_|refine X.D ?_|refine X.E ?_|refine X.F ?_|refine X.G ?_|refine X.H ?_|refine X.I ?_|fail)
    refine WL.ixload (j := i) (hA.below RI.stable hbl03 hzA) (List.getElem?_eq_getElem hli) ?_
    rintro p1 _ rfl
    repeat' (first|refine X.O ?_|refine X.A ?_|refine X.B ?_|refine X.C ?_|refine X.D ?_|refine X.E ?_|refine X.F ?_|refine X.G ?_|refine X.H ?_|refine X.I ?_|fail)
    refine WL.step (o_loadS (by rfl) hb13 (by rfl) ?_)
    repeat' (first|refine X.O ?_|refine X.A ?_|refine X.B ?_|refine X.C ?_|refine X.D ?_|refine X.E ?_|refine X.F ?_|refine X.G ?_|refine X.H ?_|refine X.I ?_|fail)
    refine WL.call (nodes_any (vc := vc) (hT.below IS.stable hbl03 hzT) hlp) ?_
    rintro _ w4 ⟨rfl, hbl4⟩
    have hz4 := hbl4.size
    refine WL.call (pow_at k placesN[i] placesN[i].toNat (by omega) hkb.1 hkb.2 (by omega) _) ?_
    rintro _ w5 ⟨rfl, hs5⟩
    have hz5 := hs5.size
    have hpw := powN_bd k placesN[i].toNat
    refine WL.step (o_mul (by rfl) (by rfl) (mul_in hab.1 hab.2 hpw.1 hpw.2) ?_)
    refine WL.call (num_any _ _) ?_
    rintro _ _ ⟨rfl, rfl⟩
    have hown5 := (hown3.below hbl4 (Nat.le_refl _)).still hs5
    refine o_append1 (u := .int .i64 (nm (a[i] * powN k placesN[i].toNat))) (fun _ => by rfl) (by rfl) hown5 rfl (by rw [Ints_length, List.length_take]; unfold maxLen; omega) (by rw [Ints_length, List.length_take]; omega) (by omega) ?_
    intro p2 v6 w6 hown6 hbl6 _ hz6 _
    rw [← hkk, ← Ints_snocG hlk] at hown6
    repeat' (first|refine X.O ?_|refine X.A ?_|refine X.B ?_|refine X.C ?_|refine X.D ?_|refine X.E ?_|refine X.F ?_|refine X.G ?_|refine X.H ?_|refine X.I ?_|fail)
    exact ⟨(i + 1, v6), ⟨rfl, rfl, rfl, rfl, rfl, (by first|rfl|exact X.T (by omega)), trivial⟩, ⟨by dsimp only; omega, hown6, ((hbl3.trans (Below.mono hbl4 (by omega))).trans (hs5.below _)).trans hbl6⟩, by dsimp only; omega⟩
  · rename_i hge
    have hie : i = 38 := by omega
    subst hie
    rw [List.take_of_length_le (by omega)] at hown3
    repeat' (first|refine X.O ?_|refine X.A ?_|refine X.B ?_|refine X.C ?_|refine X.D ?_|refine X.E ?_|refine X.F ?_|refine X.G ?_|refine X.H ?_|refine X.I ?_|fail)
    refine ⟨_, ret1 rfl (by rfl), ?_⟩
    exact ⟨hown3.lower (by omega), hbl03⟩
theorem ScaleMap_any {lo hi : Nat} {w : World} {v : Value} {a : List Int} (h : IS lo hi w v a) (k : Int) :
    Does Try.prog 19 [v, .int .i64 k] w fun r w' => ResI w r w' (scaleMap a k) := by
  have hz := h.hi_le
  refine Does.enter Try.func19 Try.ntmps19 rfl (by rfl) ?_
  repeat' (first|refine X.O ?_|refine X.A ?_|refine X.B ?_|refine X.C ?_|refine X.D ?_|refine X.E ?_|refine X.F ?_|refine X.G ?_|refine X.H ?_|refine X.I ?_|fail)
  refine WL.call (IsMap_any h) ?_
  rintro _ w1 ⟨rfl, hs1⟩
  repeat' (first|refine X.O ?_|refine X.A ?_|refine X.B ?_|refine X.C ?_|refine X.D ?_|refine X.E ?_|refine X.F ?_|refine X.G ?_|refine X.H ?_|refine X.I ?_|fail)
  first|refine X.J (fun _ => ?_) (fun _ => ?_)|refine X.L (fun _ => ?_) (fun _ => ?_)|refine X.M (fun _ => ?_) (fun _ => ?_)|refine X.R (fun _ => ?_) (fun _ => ?_)|fail
  · rename_i hf
    repeat' (first|refine X.O ?_|refine X.A ?_|refine X.B ?_|refine X.C ?_|refine X.D ?_|refine X.E ?_|refine X.F ?_|refine X.G ?_|refine X.H ?_|refine X.I ?_|fail)
    refine ⟨_, ret2 rfl (by rfl) (by rfl), ?_⟩
    rw [show scaleMap a k = ([], 1) from by simp [scaleMap, hf]]
    exact ResI.none _ _ (hs1.below _) _
  · rename_i ht
    repeat' (first|refine X.O ?_|refine X.A ?_|refine X.B ?_|refine X.C ?_|refine X.D ?_|refine X.E ?_|refine X.F ?_|refine X.G ?_|refine X.H ?_|refine X.I ?_|fail)
    refine WL.call (IsNumber_any _ _) ?_
    rintro _ w2 ⟨rfl, hs2⟩
    repeat' (first|refine X.O ?_|refine X.A ?_|refine X.B ?_|refine X.C ?_|refine X.D ?_|refine X.E ?_|refine X.F ?_|refine X.G ?_|refine X.H ?_|refine X.I ?_|fail)
    first|refine X.J (fun _ => ?_) (fun _ => ?_)|refine X.L (fun _ => ?_) (fun _ => ?_)|refine X.M (fun _ => ?_) (fun _ => ?_)|refine X.R (fun _ => ?_) (fun _ => ?_)|fail
    · rename_i hf
      repeat' (first|refine X.O ?_|refine X.A ?_|refine X.B ?_|refine X.C ?_|refine X.D ?_|refine X.E ?_|refine X.F ?_|refine X.G ?_|refine X.H ?_|refine X.I ?_|fail)
      refine ⟨_, ret2 rfl (by rfl) (by rfl), ?_⟩
      rw [show scaleMap a k = ([], 2) from by simp [scaleMap, ht, hf]]
      exact ResI.none _ _ ((hs1.trans hs2).below _) _
    · rename_i ht2
      have hs := hs1.trans hs2
      have hzs := hs.size
      repeat' (first|refine X.O ?_|refine X.A ?_|refine X.B ?_|refine X.C ?_|refine X.D ?_|refine X.E ?_|refine X.F ?_|refine X.G ?_|refine X.H ?_|refine X.I ?_|fail)
      refine WL.call (newForms_any _) ?_
      rintro v3 w3 ⟨hF, hbl3⟩
      have hz3 := hbl3.size
      repeat' (first|refine X.O ?_|refine X.A ?_|refine X.B ?_|refine X.C ?_|refine X.D ?_|refine X.E ?_|refine X.F ?_|refine X.G ?_|refine X.H ?_|refine X.I ?_|fail)
      refine WL.call (scaleMapL_any hF ((h.still RI.stable hs).below RI.stable hbl3 (by omega)) (isMap_38 ht) (isMap_all ht) ht2) ?_
      intro v4 w4 hN4
      repeat' (first|refine X.O ?_|refine X.A ?_|refine X.B ?_|refine X.C ?_|refine X.D ?_|refine X.E ?_|refine X.F ?_|refine X.G ?_|refine X.H ?_|refine X.I ?_|fail)
      refine ⟨_, ret2 rfl (by rfl) (by rfl), ?_⟩
      rw [show scaleMap a k = (scaleML a k, 0) from by simp [scaleMap, ht, ht2]]
      exact ⟨v4, rfl, hN4.trans ((hs.below _).trans (Below.mono hbl3 (by omega)))⟩
theorem l07Scale_any {la ha : Nat} {w : World} {va : Value} {a : List Int} (hA : IS la ha w va a) (hal : a.length = 38) (haa : allN a = true) {k : Int} (hk : isN k = true) :
    Does Try.prog 39 [va, .int .i64 k] w fun r w' => NewI w r w' (scaleML a k) := by
  have hzA := hA.hi_le
  have hkb := isN_bd hk
  obtain ⟨aa, ca, hva⟩ := hA.shape
  rw [hal] at hva
  subst hva
  have hkl := scaleML_len (k := k) hal
  have hkg := fun i h h1 h2 => scaleML_get (a := a) (k := k) (i := i) h h1 h2
  have ha0 := allN_get haa (show 0 < a.length by omega)
  have hk0 : (scaleML a k)[0]'(by omega) = a[0]'(by omega) := by
    rw [hkg 0 (by omega) (by rw [placesN_len]; omega) (by omega)]
    have hp0 : placesN[0]'(by rw [placesN_len]; omega) = 0 := rfl
    rw [hp0]
    show nm (a[0] * powN k 0) = _
    have : powN k 0 = 1 := powGo_zero k 1
    rw [this, Int.mul_one]
    unfold nm; omega
  obtain ⟨K, hK⟩ : ∃ K, scaleML a k = K := ⟨_, rfl⟩
  simp only [hK] at hkl hkg hk0 ⊢
  refine Does.enter Try.func39 Try.ntmps39 rfl (by rfl) ?_
  repeat' (first|refine X.O ?_|refine X.A ?_|refine X.B ?_|refine X.C ?_|refine X.D ?_|refine X.E ?_|refine X.F ?_|refine X.G ?_|refine X.H ?_|refine X.I ?_|fail)
  refine WP.midE (fun l' x => ∃ a3 c3 v4 lo3 hi3, Agree l' [(0, .slice aa 38 ca), (1, .int .i64 k), (5, .slice a3 37 c3), (6, v4)] ∧ ISS lo3 hi3 x (.slice a3 37 c3) (treesTo 6) ∧ Own w.heap.size 2 x v4 [.int .i64 (K[0]'(by omega))] ∧ (∀ k, v4.ownBlock = some k → k < lo3 ∨ hi3 ≤ k) ∧ Below w.heap.size w x) ?_ ?_
  · refine WP.forkedL (fun w' => Below w.heap.size w w') [] (.q 1 (.q 2 (.q 3 (.two 0 (.q 5 (.o 4 (.q 6 .nil))) 4 (.o 0 (.q 5 (.q 6 .nil))))))) (by kernel_rfl) mixed ?_
    intro w3 hs3
    have hz3 := hs3.size
    have hS3 : Below w.heap.size w w3 := hs3.below _
    refine WV.q rfl (q_s (by rfl)) hS3 ?_
    refine WV.ixload (j := 0) rfl rfl (hA.still RI.stable hs3) (List.getElem?_eq_getElem (by omega)) (fun w' hw' => same_below hS3 hw' hzA) hS3 ?_
    rintro p1 _ rfl
    rw [← hk0]
    refine WV.two rfl rfl (o_call (l03All_any 6 (by omega) _) ?_) (o_lit (us := [.int .i64 (K[0]'(by omega))]) (by rfl) (by rfl) rfl (by decide) (one1 rfl) ?_)
    · rintro v4 w4 ⟨⟨vs4, o4⟩, hbl4⟩
      have hz4 := hbl4.size
      have hS4 := hS3.trans (Below.mono hbl4 (by omega))
      refine ⟨hS4, ?_⟩
      refine WV.q rfl (q_s (by rfl)) hS4 ?_
      refine WV.o rfl (o_lit (us := [.int .i64 (K[0]'(by omega))]) (by rfl) (by rfl) rfl (by decide) (one1 rfl) ?_)
      intro v5 w5 hown5 hbl5 hz5 _
      have hS5 := hS4.trans (Below.mono hbl5 (by omega))
      refine ⟨hS5, ?_⟩
      refine WV.q rfl (q_s (by rfl)) hS5 ?_
      refine WV.nil (thenN ?_)
      obtain ⟨a4, c4, hv4⟩ := o4.rd.shape
      rw [treesTo_len] at hv4
      subst hv4
      exact ⟨a4, c4, v5, w3.heap.size, w4.heap.size, ⟨rfl, rfl, rfl, rfl, trivial⟩, o4.rd.below IS.stable hbl5 (Nat.le_refl _), hown5.lower (by omega), fun k hk => Or.inr (hown5.block k hk).1, hS5⟩
    · intro v5 w5 hown5 hbl5 hz5 _
      have hS5 := hS3.trans (Below.mono hbl5 (by omega))
      refine ⟨hS5, ?_⟩
      refine WV.o rfl (o_call (l03All_any 6 (by omega) _) ?_)
      rintro v4 w4 ⟨⟨vs4, o4⟩, hbl4⟩
      have hz4 := hbl4.size
      have hS4 := hS5.trans (Below.mono hbl4 (by omega))
      refine ⟨hS4, ?_⟩
      refine WV.q rfl (q_s (by rfl)) hS4 ?_
      refine WV.q rfl (q_s (by rfl)) hS4 ?_
      refine WV.nil (thenN ?_)
      obtain ⟨a4, c4, hv4⟩ := o4.rd.shape
      rw [treesTo_len] at hv4
      subst hv4
      exact ⟨a4, c4, v5, w5.heap.size, w4.heap.size, ⟨rfl, rfl, rfl, rfl, trivial⟩, o4.rd, (hown5.below hbl4 (Nat.le_refl _)).lower (by omega), fun k hk => Or.inl (hown5.block k hk).2, hS4⟩
  · rintro l' w3 ⟨a3, c3, v4, lo3, hi3, hag, hT3, hown3, hap3, hbl3⟩
    refine WP.frame _ hag ?_
    clear hag
    have hz3 := hbl3.size
    have hhi3 := hT3.hi_le
    have hown31 : Own w.heap.size 2 w3 v4 (Ints (K.take 1)) := by rw [Ints_snocG (show 0 < K.length by omega)]; exact hown3
    repeat' (first|refine X.O ?_|refine X.A ?_|refine X.B ?_|refine X.C ?_|refine X.D ?_|refine X.E ?_|refine X.F ?_|refine X.G ?_|refine X.H ?_|refine X.I ?_|fail)
    refine WP.loop (fun (s : Nat × Value) => [(0, .slice aa 38 ca), (1, .int .i64 k), (5, .slice a3 37 c3), (6, s.2), (7, .int .i64 (s.1 : Nat))])
      (fun s w5 => s.1 ≤ 37 ∧ Own w.heap.size 2 w5 s.2 (Ints (K.take (s.1 + 1))) ∧ Below w.heap.size w w5 ∧ ISS lo3 hi3 w5 (.slice a3 37 c3) (treesTo 6) ∧ (∀ k, s.2.ownBlock = some k → k < lo3 ∨ hi3 ≤ k))
      (fun s => 37 - s.1) (0, v4) ⟨rfl, rfl, rfl, rfl, rfl, trivial⟩ ⟨by dsimp only; omega, hown31, hbl3, hT3, hap3⟩ ?_
    rintro ⟨i, vo⟩ w5 ⟨hi1, hown5, hbl5, hT5, hap5⟩
    dsimp only at hi1 hown5 hap5 ⊢
    have hz5 := hbl5.size
    repeat' (first|refine X.O ?_|refine X.A ?_|refine X.B ?_|refine X.C ?_|refine X.D ?_|refine X.E ?_|refine X.F ?_|refine X.G ?_|refine X.H ?_|refine X.I ?_|fail)
    first|refine X.J (fun _ => ?_) (fun _ => ?_)|refine X.L (fun _ => ?_) (fun _ => ?_)|refine X.M (fun _ => ?_) (fun _ => ?_)|refine X.R (fun _ => ?_) (fun _ => ?_)|fail
    · rename_i hlt
      have hlT : i < (treesTo 6).length := by rw [treesTo_len]; omega
      have hlk : i + 1 < K.length := by omega
      have hla : i + 1 < a.length := by omega
      have hlp : i + 1 < placesN.length := by rw [placesN_len]; omega
      have hkk := hkg (i + 1) hlk hlp hla
      have hpe := placesN_get hlp (by omega) (by simpa using hlT)
      rw [hpe] at hkk
      have htt := (treesTo_ok (n := 6) (by omega) _ (List.getElem_mem hlT)).2
      have hab := allN_get haa hla
      repeat' (first|refine X.O ?_|refine X.A ?_|refine X.B ?_|refine X.C ?_|refine X.D ?_|refine X.E ?_|refine X.F ?_|refine X.G ?_|refine X.H ?_|refine X.I ?_|fail)
      refine WP.drawn (fun w' => SX vo w5 w') [(0, true), (1, true), (2, true), (3, true), (4, true), (5, true), (6, true), (7, true), (8, true), (9, true), (10, true), (11, true), (12, false), (13, false), (14, false), (15, false), (16, true)] (by kernel_rfl) mixed ?_
      intro w6 hs6
      have hz6 := hs6.size
      have hB6 : Below w5.heap.size w5 w6 := hs6.below _
      have hS6 : SX vo w5 w6 := SX.below hB6
      have hov := fun k hk => (hown5.block k hk).1
      repeat' (first|refine X.U rfl ?_|refine X.V rfl ?_|refine X.W rfl ?_|refine X.Y rfl ?_|refine X.Z rfl ?_|refine WS.nil ?_|fail)
      refine WS.ixload (j := i + 1) rfl rfl ((hA.below RI.stable hbl5 hzA).still RI.stable hs6) (List.getElem?_eq_getElem hla) (fun w' hw' => SX.same hS6 hw' (by omega) (fun k hk => Or.inr (by have := hov k hk; omega))) hS6 ?_
      rintro p1 _ rfl
      repeat' (first|refine X.U rfl ?_|refine X.V rfl ?_|refine X.W rfl ?_|refine X.Y rfl ?_|refine X.Z rfl ?_|refine WS.nil ?_|fail)
      refine WS.ixload (j := i) rfl rfl (hT5.still IS.stable hs6) (List.getElem?_eq_getElem hlT) (fun w' hw' => SX.same hS6 hw' hT5.hi_le hap5) hS6 ?_
      intro p2 u hu
      obtain ⟨au, cu, hvu⟩ := hu.shape
      subst hvu
      repeat' (first|refine X.U rfl ?_|refine X.V rfl ?_|refine X.W rfl ?_|refine X.Y rfl ?_|refine X.Z rfl ?_|refine WS.nil ?_|fail)
      refine WS.call rfl (l01Pow_at k ((treesTo 6)[i].length : Nat) (treesTo 6)[i].length rfl hkb.1 hkb.2 (by omega) _) ?_
      rintro _ _ ⟨rfl, rfl⟩
      refine ⟨hS6, ?_⟩
      have hpw := powN_bd k (treesTo 6)[i].length
      refine WS.call rfl (l01Mul_any _ _ _ (mul_in hab.1 hab.2 hpw.1 hpw.2)) ?_
      rintro _ _ ⟨rfl, rfl⟩
      refine ⟨hS6, ?_⟩
      refine WS.op rfl (o_lit (us := [.int .i64 (nm (a[i + 1] * powN k (treesTo 6)[i].length))]) (by rfl) (by rfl) rfl (by decide) (one1 rfl) ?_)
      intro v7 w7 hown7 hbl7 hz7 _
      have hS7 : Below w5.heap.size w5 w7 := hB6.trans (Below.mono hbl7 (by omega))
      refine ⟨SX.below hS7, ?_⟩
      refine WS.op rfl (o_appendK (us := Ints (K.take (i + 1))) (news := [.int .i64 (nm (a[i + 1] * powN k (treesTo 6)[i].length))]) (by rfl) (by rfl) (hown5.below hS7 (Nat.le_refl _)) hown7.src (one1 rfl) (by rw [Ints_length, List.length_take]; simp [maxLen]; omega) (by rw [Ints_length, List.length_take]; simp; omega) (by omega) (by simp) ?_)
      intro v8 w8 hown8 hg8 hbl8 hk8
      have hS8 : SX vo w5 w8 := (SX.below hS7).grow hg8
      refine ⟨hS8, ?_⟩
      refine WS.q rfl (q_s (by rfl)) hS8 ?_
      refine WS.nil ?_
      have hz8 := hg8.size
      have hT8 : ISS lo3 hi3 w8 (.slice a3 37 c3) (treesTo 6) := (hT5.below IS.stable hS7 hT5.hi_le).same IS.stable (fun k h1 h2 => hg8.block k (by have := hT5.hi_le; omega) (fun e => by rcases hap5 k e.symm with h3 | h3 <;> omega)) (by have := hT5.hi_le; omega)
      replace hkk : K[i + 1] = nm (a[i + 1] * powN k (treesTo 6)[i].length) := hkk
      rw [← hkk, ← Ints_snocG hlk] at hown8
      repeat' (first|refine X.O ?_|refine X.A ?_|refine X.B ?_|refine X.C ?_|refine X.D ?_|refine X.E ?_|refine X.F ?_|refine X.G ?_|refine X.H ?_|refine X.I ?_|fail)
      refine ⟨(i + 1, v8), ⟨rfl, rfl, rfl, rfl, (by first|rfl|exact X.T (by omega)), trivial⟩, ⟨by dsimp only; omega, hown8, (hbl5.trans (Below.mono hS7 (by omega))).trans hbl8, hT8, fun k hk => ?_⟩, by dsimp only; omega⟩
      rcases hk8 k hk with h3 | h3
      · exact hap5 k h3
      · exact Or.inr (by have := hT5.hi_le; omega)
    · rename_i hge
      have hie : i = 37 := by omega
      subst hie
      rw [List.take_of_length_le (by omega)] at hown5
      repeat' (first|refine X.O ?_|refine X.A ?_|refine X.B ?_|refine X.C ?_|refine X.D ?_|refine X.E ?_|refine X.F ?_|refine X.G ?_|refine X.H ?_|refine X.I ?_|fail)
      refine ⟨_, ret1 rfl (by rfl), ?_⟩
      exact ⟨hown5, hbl5⟩
end Go.Proofs
