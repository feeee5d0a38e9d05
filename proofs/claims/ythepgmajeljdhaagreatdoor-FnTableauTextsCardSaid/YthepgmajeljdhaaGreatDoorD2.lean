/- The named tableaus of the reference. -/
import Derived.Test.YthepgmajeljdhaaGreatDoorA26
import Derived.Test.YthepgmajeljdhaaGreatDoorA5
import Derived.Test.YthepgmajeljdhaaGreatDoorS1
namespace Go.Fw
open Go Go.RowKit Go.Rk
def frc (a q : Int) : Int := nm (nm a * powN (nm q) 10005)
def rowL (q : Int) (xs : List Int) : List Int := xs.map fun x => frc x q
def sqRow (s : Nat) (q : Int) (xs : List Int) (i : Nat) : List Int := (List.range s).map fun k => frc (xs.getD (i * s + k) 0) q
def sqL (s : Nat) (q : Int) (xs : List Int) : List (List Int) := (List.range s).map (sqRow s q xs)
theorem rowL_length (q : Int) (xs : List Int) : (rowL q xs).length = xs.length := by simp [rowL]
theorem sqRow_length (s : Nat) (q : Int) (xs : List Int) (i : Nat) : (sqRow s q xs i).length = s := by simp [sqRow]
theorem sqL_length (s : Nat) (q : Int) (xs : List Int) : (sqL s q xs).length = s := by simp [sqL]
def rootGo (a : Int) (k : Nat) : Nat → Nat → Int
  | 0, _ => -1
  | f + 1, b => if powN b k = a then b else rootGo a k f (b + 1)
def rootL (a : Int) (k : Nat) : Int := rootGo a k 10007 0
theorem rootGo_bd (a : Int) (k : Nat) : ∀ f b, b + f = 10007 → -1 ≤ rootGo a k f b ∧ rootGo a k f b ≤ 10006
  | 0, _, _ => by simp [rootGo]
  | f + 1, b, h => by
    rw [rootGo]
    split
    · omega
    · exact rootGo_bd a k f (b + 1) (by omega)
theorem rootL_bd (a : Int) (k : Nat) : -1 ≤ rootL a k ∧ rootL a k ≤ 10006 := rootGo_bd a k 10007 0 (by omega)
attribute [irreducible] rootL sqL rowL sqRow
def eqS (a b : ByteArray) : Bool := a.toList == b.toList
def gaussT : TabD := ([[frc 1 4, nm (frc 1 4 - nm (rootL 3 2 * frc 1 6))], [nm (frc 1 4 + nm (rootL 3 2 * frc 1 6)), frc 1 4]], rowL 2 [1, 1])
def namedT (s : ByteArray) : TabD := if eqS s ⟨#[101, 117, 108, 101, 114]⟩ then (sqL 1 1 [0], rowL 1 [1]) else if eqS s ⟨#[103, 97, 117, 115, 115]⟩ then gaussT else if eqS s ⟨#[104, 101, 117, 110]⟩ then (sqL 2 1 [0, 0, 1, 0], rowL 2 [1, 1]) else if eqS s ⟨#[105, 109, 112, 108, 105, 99, 105, 116]⟩ then (sqL 1 1 [1], rowL 1 [1]) else if eqS s ⟨#[107, 117, 116, 116, 97]⟩ then (sqL 3 2 [0, 0, 0, 1, 0, 0, -2, 4, 0], rowL 6 [1, 4, 1]) else if eqS s ⟨#[108, 111, 98, 97, 116, 116, 111]⟩ then (sqL 3 24 [0, 0, 0, 5, 8, -1, 4, 16, 4], rowL 6 [1, 4, 1]) else if eqS s ⟨#[109, 105, 100, 100, 108, 101]⟩ then (sqL 1 2 [1], rowL 1 [1]) else if eqS s ⟨#[109, 105, 100, 112, 111, 105, 110, 116]⟩ then (sqL 2 2 [0, 0, 1, 0], rowL 1 [0, 1]) else if eqS s ⟨#[114, 97, 100, 97, 117]⟩ then (sqL 2 12 [5, -1, 9, 3], rowL 4 [3, 1]) else if eqS s ⟨#[114, 97, 108, 115, 116, 111, 110]⟩ then (sqL 2 3 [0, 0, 2, 0], rowL 4 [1, 3]) else if eqS s ⟨#[114, 117, 110, 103, 101]⟩ then (sqL 4 2 [0, 0, 0, 0, 1, 0, 0, 0, 0, 1, 0, 0, 0, 0, 2, 0], rowL 6 [1, 2, 2, 1]) else (sqL 2 2 [0, 0, 1, 1], rowL 2 [1, 1])
section
variable {P : Program} {N : Nat} {Q : Exit → Fr → World → Prop} {S : World → Prop} {l : Fr} {w : World} {ops : Array Oper} {K : Fr → World → Prop}
variable {d : Nat} {ty : TypeId} {pos : String} {af : Array Edge} {g : Option (Nat × Bool)}
theorem o_eqS {x y : Operand} {t t' : TypeId} {a b : ByteArray} (hx : ev l x = some (.string a)) (hy : ev l y = some (.string b)) (k : K ((d, .bool (eqS a b)) :: l) w)
    (hg : wantedL ops l g = some true := by rfl) (hd : Nat.blt d N = true := by rfl) : OpW P N ops Q ⟨some d, .binOp .eql t x y t', ty, pos, af, g⟩ l w K :=
  OpW.val (fun fr ha => by simp [execOp, ha.ev hx, ha.ev hy, binOp, eqGuard, Op.stringOp, eqS]) k hg hd
end
theorem twoC {u u' : Value} (h : u.oneCell' = true) (h' : u'.oneCell' = true) : ∀ x ∈ [u, u'], x.oneCell' = true := fun x hx => by
  simp only [List.mem_cons, List.not_mem_nil, or_false] at hx
  rcases hx with rfl | rfl
  · exact h
  · exact h'
/-- Two new rows in a literal. -/
theorem OwSSv.two {e e2 lo m hi : Nat} {w : World} {v u1 u2 : Value} {xs ys : List Int} (h1 : OwI e2 lo m w u1 xs) (h2 : OwI e2 m hi w u2 ys) (ho : Own hi e w v [u1, u2]) (hm : m ≤ hi) (hlo : lo ≤ m) (hne : e ≠ e2) :
    OwSSv e e2 lo w.heap.size w v [u1, u2] [xs, ys] := by
  have hh := h2.hi_le
  refine ⟨ho.lower (by omega), fun k hk => (ho.block k hk).2, Nat.le_refl _, rfl, fun i u zs hu hz => ?_, fun i j a b hij ha hb k hk => ?_, hne⟩
  · match i, hu, hz with
    | 0, hu, hz => simp at hu hz; subst hu hz; exact h1.wide (Nat.le_refl _) (by omega) (Nat.le_refl _)
    | 1, hu, hz => simp at hu hz; subst hu hz; exact h2.wide (by omega) (by omega) (Nat.le_refl _)
    | n + 2, hu, hz => simp at hu
  · match i, j, hij, ha, hb with
    | 0, 0, hij, _, _ => exact absurd rfl hij
    | 1, 1, hij, _, _ => exact absurd rfl hij
    | 0, 1, _, ha, hb =>
      simp at ha hb; subst ha hb
      intro hk2
      have := h1.lt k hk
      have := (h2.own.block k hk2).1
      omega
    | 1, 0, _, ha, hb =>
      simp at ha hb; subst ha hb
      intro hk2
      have := h1.lt k hk2
      have := (h2.own.block k hk).1
      omega
    | n + 2, _, _, ha, _ => simp at ha
    | 0, n + 2, _, _, hb => simp at hb
    | 1, n + 2, _, _, hb => simp at hb
end Go.Fw
set_option maxRecDepth 60000
namespace Go.Proofs
open Go Go.Fw Go.RowKit Go.Rk
theorem l09Row_any (q : Int) {lo hi : Nat} {w : World} {v : Value} {xs : List Int} (h : IS lo hi w v xs) (hn : xs.length ≤ 1000) :
    Does Tryz.prog 72 [.int .i64 q, v] w fun r w' => NewI w r w' (rowL q xs) := by
  obtain ⟨a, c, hv⟩ := h.shape
  subst hv
  have hlen := rowL_length q xs
  have hhl := h.hi_le
  refine Does.enter Tryz.func72 Tryz.ntmps72 rfl (by rfl) ?_
  repeat' (first|refine X.O ?_|refine X.A ?_|refine X.B ?_|refine X.C ?_|refine X.D ?_|refine X.E ?_|refine X.F ?_|refine X.G ?_|refine X.H ?_|refine X.I ?_|fail)
  refine WL.step (o_lit (us := []) (by rfl) (by rfl) rfl (by decide) one0 ?_)
  intro v1 w1 hown hb1 hz1 _
  repeat' (first|refine X.O ?_|refine X.A ?_|refine X.B ?_|refine X.C ?_|refine X.D ?_|refine X.E ?_|refine X.F ?_|refine X.G ?_|refine X.H ?_|refine X.I ?_|fail)
  refine WP.loop (fun (s : Nat × Value) => [(0, .int .i64 q), (1, .slice a xs.length c), (5, s.2), (6, .int .i64 (s.1 : Nat))])
    (fun s w2 => s.1 ≤ xs.length ∧ Own w.heap.size 2 w2 s.2 (Ints ((rowL q xs).take s.1)) ∧ Below w.heap.size w w2)
    (fun s => xs.length - s.1) (0, v1) ⟨rfl, rfl, rfl, rfl, trivial⟩ ⟨by omega, by simpa [Ints] using hown, hb1⟩ ?_
  rintro ⟨i, vo⟩ w2 ⟨hi, hown2, hb2⟩
  dsimp only at hi hown2 ⊢
  have hs2 := hb2.size
  repeat' (first|refine X.O ?_|refine X.A ?_|refine X.B ?_|refine X.C ?_|refine X.D ?_|refine X.E ?_|refine X.F ?_|refine X.G ?_|refine X.H ?_|refine X.I ?_|fail)
  first|refine X.J (fun _ => ?_) (fun _ => ?_)|refine X.L (fun _ => ?_) (fun _ => ?_)|refine X.M (fun _ => ?_) (fun _ => ?_)|refine X.R (fun _ => ?_) (fun _ => ?_)|fail
  · rename_i hlt
    have hlt' : i < xs.length := by omega
    have h2 := h.below RI.stable hb2 hhl
    repeat' (first|refine X.O ?_|refine X.A ?_|refine X.B ?_|refine X.C ?_|refine X.D ?_|refine X.E ?_|refine X.F ?_|refine X.G ?_|refine X.H ?_|refine X.I ?_|fail)
    refine WL.ixload h2 (List.getElem?_eq_getElem hlt') ?_
    rintro p _ rfl
    repeat' (first|refine X.O ?_|refine X.A ?_|refine X.B ?_|refine X.C ?_|refine X.D ?_|refine X.E ?_|refine X.F ?_|refine X.G ?_|refine X.H ?_|refine X.I ?_|fail)
    refine WL.call (l01Frac_any _ _ _) ?_
    rintro _ _ ⟨rfl, rfl⟩
    refine o_append1 (u := .int .i64 _) (fun _ => by rfl) (by rfl) hown2 rfl (by simp [Ints, hlen, maxLen]; omega) (by simp [Ints, hlen]; omega) (by omega) ?_
    intro p5 v5 w5 hown5 hb5 _ _ _
    repeat' (first|refine X.O ?_|refine X.A ?_|refine X.B ?_|refine X.C ?_|refine X.D ?_|refine X.E ?_|refine X.F ?_|refine X.G ?_|refine X.H ?_|refine X.I ?_|fail)
    refine ⟨(i + 1, v5), ⟨rfl, rfl, rfl, (by first|rfl|exact X.T (by omega)), trivial⟩, ⟨by dsimp only; omega, ?_, hb2.trans hb5⟩, by dsimp only; omega⟩
    dsimp only
    rw [← Ints_snoc (show i < (rowL q xs).length by omega) (y := frc xs[i] q) (by simp [rowL])]
    exact hown5
  · rename_i hge
    have : i = xs.length := by omega
    subst this
    repeat' (first|refine X.O ?_|refine X.A ?_|refine X.B ?_|refine X.C ?_|refine X.D ?_|refine X.E ?_|refine X.F ?_|refine X.G ?_|refine X.H ?_|refine X.I ?_|fail)
    refine ⟨_, ret1 rfl (by rfl), ?_⟩
    rw [List.take_of_length_le (by omega)] at hown2
    exact ⟨hown2, hb2⟩
theorem l09Square_any (s : Nat) (q : Int) {lo hi : Nat} {w : World} {v : Value} {xs : List Int} (h : IS lo hi w v xs) (hs : s ≤ 4) (hn : s * s ≤ xs.length) :
    Does Tryz.prog 71 [.int .i64 (s : Nat), .int .i64 q, v] w fun r w' => NewSS 25 2 w r w' (sqL s q xs) := by
  obtain ⟨a, c, hv⟩ := h.shape
  subst hv
  have hlen := sqL_length s q xs
  have hhl := h.hi_le
  refine Does.enter Tryz.func71 Tryz.ntmps71 rfl (by rfl) ?_
  repeat' (first|refine X.O ?_|refine X.A ?_|refine X.B ?_|refine X.C ?_|refine X.D ?_|refine X.E ?_|refine X.F ?_|refine X.G ?_|refine X.H ?_|refine X.I ?_|fail)
  refine WL.step (o_lit (us := []) (by rfl) (by rfl) rfl (by decide) one0 ?_)
  intro v1 w1 hown1 hbl1 hz1 _
  repeat' (first|refine X.O ?_|refine X.A ?_|refine X.B ?_|refine X.C ?_|refine X.D ?_|refine X.E ?_|refine X.F ?_|refine X.G ?_|refine X.H ?_|refine X.I ?_|fail)
  refine WP.loop (fun (z : Nat × Value) => [(0, .int .i64 (s : Nat)), (1, .int .i64 q), (2, .slice a xs.length c), (7, z.2), (8, .int .i64 (z.1 : Nat))])
    (fun z w2 => z.1 ≤ s ∧ (∃ vs, OwSSv 25 2 w.heap.size w2.heap.size w2 z.2 vs ((sqL s q xs).take z.1)) ∧ Below w.heap.size w w2)
    (fun z => s - z.1) (0, v1) ⟨rfl, rfl, rfl, rfl, rfl, trivial⟩ ⟨by dsimp only; omega, ⟨[], OwSSv.none hown1 (by decide)⟩, hbl1⟩ ?_
  rintro ⟨i, vo⟩ w2 ⟨hi1, ⟨vs, oA⟩, hbl2⟩
  dsimp only at hi1 oA ⊢
  have hz2 := hbl2.size
  have hvl : vs.length = i := by rw [oA.len, List.length_take]; omega
  repeat' (first|refine X.O ?_|refine X.A ?_|refine X.B ?_|refine X.C ?_|refine X.D ?_|refine X.E ?_|refine X.F ?_|refine X.G ?_|refine X.H ?_|refine X.I ?_|fail)
  first|refine X.J (fun _ => ?_) (fun _ => ?_)|refine X.L (fun _ => ?_) (fun _ => ?_)|refine X.M (fun _ => ?_) (fun _ => ?_)|refine X.R (fun _ => ?_) (fun _ => ?_)|fail
  · rename_i hlt
    have hli : i < s := by omega
    have hrl := sqRow_length s q xs i
    obtain ⟨m, hm⟩ : ∃ m, i * s = m := ⟨_, rfl⟩
    have hmI : (i : Int) * (s : Int) = (m : Int) := by rw [← hm]; push_cast; rfl
    have hms : m + s ≤ s * s := by
      have := Nat.mul_le_mul_right s (show i + 1 ≤ s from hli)
      rw [Nat.add_mul, Nat.one_mul] at this
      omega
    have hss : s * s ≤ 16 := Nat.mul_le_mul hs hs
    repeat' (first|refine X.O ?_|refine X.A ?_|refine X.B ?_|refine X.C ?_|refine X.D ?_|refine X.E ?_|refine X.F ?_|refine X.G ?_|refine X.H ?_|refine X.I ?_|fail)
    refine WL.step (o_lit (us := []) (by rfl) (by rfl) rfl (by decide) one0 ?_)
    intro v3 w3 hown3 hbl3 hz3 _
    repeat' (first|refine X.O ?_|refine X.A ?_|refine X.B ?_|refine X.C ?_|refine X.D ?_|refine X.E ?_|refine X.F ?_|refine X.G ?_|refine X.H ?_|refine X.I ?_|fail)
    refine WP.loop (fun (z : Nat × Value) => [(0, .int .i64 (s : Nat)), (1, .int .i64 q), (2, .slice a xs.length c), (7, vo), (8, .int .i64 (i : Nat)), (9, z.2), (10, .int .i64 (z.1 : Nat))])
      (fun z w4 => z.1 ≤ s ∧ Own w2.heap.size 2 w4 z.2 (Ints ((sqRow s q xs i).take z.1)) ∧ Below w2.heap.size w2 w4)
      (fun z => s - z.1) (0, v3) ⟨rfl, rfl, rfl, rfl, rfl, rfl, rfl, trivial⟩ ⟨by dsimp only; omega, by simpa [Ints] using hown3, hbl3⟩ ?_
    rintro ⟨k, vr⟩ w4 ⟨hk1, hown4, hbl4⟩
    dsimp only at hk1 hown4 ⊢
    have hz4 := hbl4.size
    repeat' (first|refine X.O ?_|refine X.A ?_|refine X.B ?_|refine X.C ?_|refine X.D ?_|refine X.E ?_|refine X.F ?_|refine X.G ?_|refine X.H ?_|refine X.I ?_|fail)
    first|refine X.J (fun _ => ?_) (fun _ => ?_)|refine X.L (fun _ => ?_) (fun _ => ?_)|refine X.M (fun _ => ?_) (fun _ => ?_)|refine X.R (fun _ => ?_) (fun _ => ?_)|fail
    · rename_i hlt2
      have hlk : k < s := by omega
      have hmk : m + k < xs.length := by omega
      repeat' (first|refine X.O ?_|refine X.A ?_|refine X.B ?_|refine X.C ?_|refine X.D ?_|refine X.E ?_|refine X.F ?_|refine X.G ?_|refine X.H ?_|refine X.I ?_|fail)
      refine WL.step (o_mul (by rfl) (by rfl) (by rw [hmI]; unfold InI; omega) ?_)
      rw [hmI]
      repeat' (first|refine X.O ?_|refine X.A ?_|refine X.B ?_|refine X.C ?_|refine X.D ?_|refine X.E ?_|refine X.F ?_|refine X.G ?_|refine X.H ?_|refine X.I ?_|fail)
      refine WL.ixload (j := m + k) ((h.below RI.stable hbl2 hhl).below RI.stable hbl4 (by omega)) (List.getElem?_eq_getElem hmk) ?_
      rintro p _ rfl
      repeat' (first|refine X.O ?_|refine X.A ?_|refine X.B ?_|refine X.C ?_|refine X.D ?_|refine X.E ?_|refine X.F ?_|refine X.G ?_|refine X.H ?_|refine X.I ?_|fail)
      refine WL.call (l01Frac_any _ _ _) ?_
      rintro _ _ ⟨rfl, rfl⟩
      refine o_append1 (u := .int .i64 _) (fun _ => by rfl) (by rfl) hown4 rfl (by simp [Ints, hrl, maxLen]; omega) (by simp [Ints, hrl]; omega) (by omega) ?_
      intro p5 v5 w5 hown5 hb5 _ _ _
      repeat' (first|refine X.O ?_|refine X.A ?_|refine X.B ?_|refine X.C ?_|refine X.D ?_|refine X.E ?_|refine X.F ?_|refine X.G ?_|refine X.H ?_|refine X.I ?_|fail)
      refine ⟨(k + 1, v5), ⟨rfl, rfl, rfl, rfl, rfl, rfl, (by first|rfl|exact X.T (by omega)), trivial⟩, ⟨by dsimp only; omega, ?_, hbl4.trans hb5⟩, by dsimp only; omega⟩
      dsimp only
      rw [← Ints_snoc (show k < (sqRow s q xs i).length by omega) (y := frc xs[m + k] q) (by simp only [sqRow, List.getElem_map, List.getElem_range, hm]; rw [List.getD_eq_getElem?_getD, List.getElem?_eq_getElem hmk]; rfl)]
      exact hown5
    · rename_i hge
      have : k = s := by omega
      subst this
      rw [List.take_of_length_le (by omega)] at hown4
      have oA4 := oA.chg (Chg.of_below hbl4) (by omega)
      obtain ⟨_, _, hvr, _⟩ := hown4.shape
      repeat' (first|refine X.O ?_|refine X.A ?_|refine X.B ?_|refine X.C ?_|refine X.D ?_|refine X.E ?_|refine X.F ?_|refine X.G ?_|refine X.H ?_|refine X.I ?_|fail)
      refine o_append1 (u := vr) (fun _ => by rfl) (by rfl) oA4.own (by rw [hvr]; rfl) (by simp [hvl, maxLen]; omega) (by simp [hvl]; omega) (by omega) ?_
      intro p6 v6 w6 hown6 hbl6 hf6 hz6 _
      have o6 := oA4.snoc (⟨hown4, fun k hk => (hown4.block k hk).2, Nat.le_refl _⟩ : OwI _ _ _ _ _ _) (by omega) (by omega) hown6 (by omega) hf6
      repeat' (first|refine X.O ?_|refine X.A ?_|refine X.B ?_|refine X.C ?_|refine X.D ?_|refine X.E ?_|refine X.F ?_|refine X.G ?_|refine X.H ?_|refine X.I ?_|fail)
      refine ⟨(i + 1, v6), ⟨rfl, rfl, rfl, rfl, (by first|rfl|exact X.T (by omega)), trivial⟩, ⟨by dsimp only; omega, ⟨vs ++ [vr], ?_⟩, (hbl2.trans (Below.mono hbl4 (by omega))).trans hbl6⟩, by dsimp only; omega⟩
      dsimp only
      rw [take_snoc (show i < (sqL k q xs).length by omega) (y := sqRow k q xs i) (by simp [sqL])]
      exact o6
  · rename_i hge
    have : i = s := by omega
    subst this
    rw [List.take_of_length_le (by omega)] at oA
    repeat' (first|refine X.O ?_|refine X.A ?_|refine X.B ?_|refine X.C ?_|refine X.D ?_|refine X.E ?_|refine X.F ?_|refine X.G ?_|refine X.H ?_|refine X.I ?_|fail)
    refine ⟨_, ret1 rfl (by rfl), ?_⟩
    exact ⟨⟨vs, oA⟩, hbl2⟩
theorem l01Root_any (a : Int) (k : Nat) (hk : k ≤ 1000000) (w : World) : Does Tryz.prog 74 [.int .i64 a, .int .i64 (k : Nat)] w fun r w' => r = .int .i64 (rootL a k) ∧ Still w w' := by
  refine Does.enter Tryz.func74 Tryz.ntmps74 rfl (by rfl) ?_
  repeat' (first|refine X.O ?_|refine X.A ?_|refine X.B ?_|refine X.C ?_|refine X.D ?_|refine X.E ?_|refine X.F ?_|refine X.G ?_|refine X.H ?_|refine X.I ?_|fail)
  refine WP.loop (fun (s : Nat × Nat) => [(0, .int .i64 a), (1, .int .i64 (k : Nat)), (5, .int .i64 (s.2 : Nat))])
    (fun s w2 => s.1 + s.2 = 10007 ∧ rootL a k = rootGo a k s.1 s.2 ∧ Still w w2)
    (fun s => s.1) (10007, 0) ⟨rfl, rfl, rfl, trivial⟩ ⟨by dsimp only, by unfold rootL; rfl, Still.refl _⟩ ?_
  rintro ⟨f, b⟩ w2 ⟨hs, hr, hst⟩
  dsimp only at hs hr ⊢
  repeat' (first|refine X.O ?_|refine X.A ?_|refine X.B ?_|refine X.C ?_|refine X.D ?_|refine X.E ?_|refine X.F ?_|refine X.G ?_|refine X.H ?_|refine X.I ?_|fail)
  first|refine X.J (fun _ => ?_) (fun _ => ?_)|refine X.L (fun _ => ?_) (fun _ => ?_)|refine X.M (fun _ => ?_) (fun _ => ?_)|refine X.R (fun _ => ?_) (fun _ => ?_)|fail
  · rename_i hlt
    obtain ⟨f', rfl⟩ : ∃ f', f = f' + 1 := ⟨f - 1, by omega⟩
    repeat' (first|refine X.O ?_|refine X.A ?_|refine X.B ?_|refine X.C ?_|refine X.D ?_|refine X.E ?_|refine X.F ?_|refine X.G ?_|refine X.H ?_|refine X.I ?_|fail)
    refine WL.call (l01Pow_any (b : Nat) k (by omega) (by omega) hk _) ?_
    rintro _ _ ⟨rfl, rfl⟩
    repeat' (first|refine X.O ?_|refine X.A ?_|refine X.B ?_|refine X.C ?_|refine X.D ?_|refine X.E ?_|refine X.F ?_|refine X.G ?_|refine X.H ?_|refine X.I ?_|fail)
    first|refine X.J (fun _ => ?_) (fun _ => ?_)|refine X.L (fun _ => ?_) (fun _ => ?_)|refine X.M (fun _ => ?_) (fun _ => ?_)|refine X.R (fun _ => ?_) (fun _ => ?_)|fail
    · rename_i he
      rw [rootGo, if_pos he] at hr
      repeat' (first|refine X.O ?_|refine X.A ?_|refine X.B ?_|refine X.C ?_|refine X.D ?_|refine X.E ?_|refine X.F ?_|refine X.G ?_|refine X.H ?_|refine X.I ?_|fail)
      refine ⟨_, ret1 rfl (by rfl), ?_⟩
      exact ⟨by rw [hr], hst⟩
    · rename_i he
      rw [rootGo, if_neg he] at hr
      repeat' (first|refine X.O ?_|refine X.A ?_|refine X.B ?_|refine X.C ?_|refine X.D ?_|refine X.E ?_|refine X.F ?_|refine X.G ?_|refine X.H ?_|refine X.I ?_|fail)
      exact ⟨(f', b + 1), ⟨rfl, rfl, (by first|rfl|exact X.T (by omega)), trivial⟩, ⟨by dsimp only; omega, hr, hst⟩, by dsimp only; omega⟩
  · rename_i hge
    have : f = 0 := by omega
    subst this
    repeat' (first|refine X.O ?_|refine X.A ?_|refine X.B ?_|refine X.C ?_|refine X.D ?_|refine X.E ?_|refine X.F ?_|refine X.G ?_|refine X.H ?_|refine X.I ?_|fail)
    refine ⟨_, ret1 rfl (by rfl), ?_⟩
    exact ⟨by rw [hr]; rfl, hst⟩
theorem l09Named_any (s : ByteArray) (w : World) : Does Tryz.prog 49 [.string s] w fun r w' => OwT 25 2 w.heap.size w'.heap.size w' r (namedT s) ∧ Chg 0 0 w w' := by
  refine Does.enter Tryz.func49 Tryz.ntmps49 rfl (by rfl) ?_
  repeat' (first|refine X.O ?_|refine X.A ?_|refine X.B ?_|refine X.C ?_|refine X.D ?_|refine X.E ?_|refine X.F ?_|refine X.G ?_|refine X.H ?_|refine X.I ?_|fail)
  refine WL.step (o_alloc ?_)
  intro w1 hb1 hbl1 hz1
  repeat' (first|refine X.O ?_|refine X.A ?_|refine X.B ?_|refine X.C ?_|refine X.D ?_|refine X.E ?_|refine X.F ?_|refine X.G ?_|refine X.H ?_|refine X.I ?_|fail)
  refine WL.step (o_eqS (by rfl) (by rfl) ?_)
  repeat' (first|refine X.O ?_|refine X.A ?_|refine X.B ?_|refine X.C ?_|refine X.D ?_|refine X.E ?_|refine X.F ?_|refine X.G ?_|refine X.H ?_|refine X.I ?_|fail)
  refine WP.cond (by rfl) (fun hc0 => ?_) (fun hc0 => ?_)
  · repeat' (first|refine X.O ?_|refine X.A ?_|refine X.B ?_|refine X.C ?_|refine X.D ?_|refine X.E ?_|refine X.F ?_|refine X.G ?_|refine X.H ?_|refine X.I ?_|fail)
    refine WL.step (o_lit (us := Ints [0]) (by rfl) (by rfl) rfl (by decide) Ints_one ?_)
    intro v1 w2 hown2 hbl2 hz2 _
    refine WL.call (l09Square_any 1 (1) (hown2.toIS (Nat.le_refl _)) (by decide) (by decide)) ?_
    rintro v3 w3 ⟨hS3', hbl3⟩
    have hz3 := hbl3.size
    have hS3 : OwSS 25 2 w1.heap.size w3.heap.size w3 v3 _ := hS3'.imp fun _ h => h.wide (by omega) (Nat.le_refl _) (Nat.le_refl _)
    have h13 : Below w1.heap.size w1 w3 := hbl2.trans (Below.mono hbl3 (by omega))
    refine WL.step (o_lit (us := Ints [1]) (by rfl) (by rfl) rfl (by decide) Ints_one ?_)
    intro v4 w4 hown4 hbl4 hz4 _
    refine WL.call (l09Row_any (1) (hown4.toIS (Nat.le_refl _)) (by decide)) ?_
    rintro v5 w5 hN5
    have hz13 := h13.size
    have hz5 := hN5.2.size
    have h35 : Below w3.heap.size w3 w5 := hbl4.trans (Below.mono hN5.2 (by omega))
    have h5 : Chg 0 0 w3 w5 := Chg.of_below h35
    have hb5 := (hb1.below h13 (by omega)).below h35 (by omega)
    obtain ⟨a3, n3, c3, rfl⟩ : ∃ a n c, v3 = Value.slice a n c := by obtain ⟨vs, hS⟩ := hS3; obtain ⟨a, c, h, _⟩ := hS.own.shape; exact ⟨_, _, _, h⟩
    obtain ⟨a5, n5, c5, rfl⟩ : ∃ a n c, v5 = Value.slice a n c := by obtain ⟨a, c, h, _⟩ := hN5.1.shape; exact ⟨_, _, _, h⟩
    refine WL.step (o_build (us := [.slice a3 n3 c3, .slice a5 n5 c5]) (cells := [.slice a3 n3 c3, .slice a5 n5 c5]) (by rfl) (by rfl) ?_)
    refine WL.step (o_storeS (vs := [.slice a3 n3 c3, .slice a5 n5 c5]) (by rfl) (by rfl) hb5 (by rfl) (by rfl) (twoC rfl rfl) ?_)
    intro w6 hb6 hbut6
    have hz6 := hbut6.size
    repeat' (first|refine X.O ?_|refine X.A ?_|refine X.B ?_|refine X.C ?_|refine X.D ?_|refine X.E ?_|refine X.F ?_|refine X.G ?_|refine X.H ?_|refine X.I ?_|fail)
    refine ⟨_, retS rfl (by rfl) hb6 (by rfl), ?_, ?_⟩
    · rw [show namedT s = _ from by unfold namedT; simp only [hc0, if_true, Bool.false_eq_true, if_false]; rfl]
      exact OwT.mk (m := w3.heap.size) (((hS3.chg h5 (by omega)).chg hbut6.chg (by omega)).wide (by omega) (Nat.le_refl _) (by omega)) ((hN5.ow.chg hbut6.chg (by omega)).wide (by omega) (by omega) (Nat.le_refl _)) (by omega) (by omega)
    · exact Chg.of_below (((hbl1.trans (Below.mono h13 (by omega))).trans (Below.mono h35 (by omega))).trans (hbut6.below (Nat.le_refl _)))
  repeat' (first|refine X.O ?_|refine X.A ?_|refine X.B ?_|refine X.C ?_|refine X.D ?_|refine X.E ?_|refine X.F ?_|refine X.G ?_|refine X.H ?_|refine X.I ?_|fail)
  refine WL.step (o_eqS (by rfl) (by rfl) ?_)
  repeat' (first|refine X.O ?_|refine X.A ?_|refine X.B ?_|refine X.C ?_|refine X.D ?_|refine X.E ?_|refine X.F ?_|refine X.G ?_|refine X.H ?_|refine X.I ?_|fail)
  refine WP.cond (by rfl) (fun hc1 => ?_) (fun hc1 => ?_)
  · repeat' (first|refine X.O ?_|refine X.A ?_|refine X.B ?_|refine X.C ?_|refine X.D ?_|refine X.E ?_|refine X.F ?_|refine X.G ?_|refine X.H ?_|refine X.I ?_|fail)
    refine WL.call (l01Root_any 3 2 (by decide) _) ?_
    rintro _ wr ⟨rfl, hsr⟩
    have hrt := rootL_bd 3 2
    have hf6 := nm_bd (nm 1 * powN (nm 6) 10005)
    have hf4 := nm_bd (nm 1 * powN (nm 4) 10005)
    refine WL.call (l01Frac_any 1 6 _) ?_
    rintro _ _ ⟨rfl, rfl⟩
    have he : frc 1 6 = nm (nm 1 * powN (nm 6) 10005) := rfl
    have hm1 := Int.mul_le_mul_of_nonneg_right hrt.1 hf6.1
    have hm2 := Int.mul_le_mul_of_nonneg_right hrt.2 hf6.1
    rw [← he] at hm1 hm2 hf6
    refine WL.call (l01Mul_any (rootL 3 2) (frc 1 6) _ (by unfold InI; omega)) ?_
    rintro _ _ ⟨rfl, rfl⟩
    have hr := nm_bd (rootL 3 2 * frc 1 6)
    repeat' (first|refine X.O ?_|refine X.A ?_|refine X.B ?_|refine X.C ?_|refine X.D ?_|refine X.E ?_|refine X.F ?_|refine X.G ?_|refine X.H ?_|refine X.I ?_|fail)
    refine WL.call (l01Frac_any 1 4 _) ?_
    rintro _ _ ⟨rfl, rfl⟩
    have hq : 0 ≤ frc 1 4 ∧ frc 1 4 ≤ 10006 := hf4
    repeat' (first|refine X.O ?_|refine X.A ?_|refine X.B ?_|refine X.C ?_|refine X.D ?_|refine X.E ?_|refine X.F ?_|refine X.G ?_|refine X.H ?_|refine X.I ?_|fail)
    refine WL.call (l01Sub_any (frc 1 4) (nm (rootL 3 2 * frc 1 6)) _ (by unfold InI; omega)) ?_
    rintro _ _ ⟨rfl, rfl⟩
    refine WL.step (o_lit (us := Ints [frc 1 4, nm (frc 1 4 - nm (rootL 3 2 * frc 1 6))]) (by rfl) (by rfl) rfl (by decide) Ints_one ?_)
    intro va wa howna hbla hza _
    repeat' (first|refine X.O ?_|refine X.A ?_|refine X.B ?_|refine X.C ?_|refine X.D ?_|refine X.E ?_|refine X.F ?_|refine X.G ?_|refine X.H ?_|refine X.I ?_|fail)
    refine WL.call (l01Add_any (frc 1 4) (nm (rootL 3 2 * frc 1 6)) _ (by unfold InI; omega)) ?_
    rintro _ _ ⟨rfl, rfl⟩
    repeat' (first|refine X.O ?_|refine X.A ?_|refine X.B ?_|refine X.C ?_|refine X.D ?_|refine X.E ?_|refine X.F ?_|refine X.G ?_|refine X.H ?_|refine X.I ?_|fail)
    refine WL.step (o_lit (us := Ints [nm (frc 1 4 + nm (rootL 3 2 * frc 1 6)), frc 1 4]) (by rfl) (by rfl) rfl (by decide) Ints_one ?_)
    intro vb wb hownb hblb hzb _
    obtain ⟨_, _, hva, _⟩ := howna.shape
    obtain ⟨_, _, hvb, _⟩ := hownb.shape
    refine WL.step (o_lit (us := [va, vb]) (by rfl) (by rfl) rfl (by decide) (twoC (by rw [hva]; rfl) (by rw [hvb]; rfl)) ?_)
    intro v3 w3 hown3 hbl3' hz3' _
    have hzr := hsr.size
    have hA : OwI 2 w1.heap.size wa.heap.size wa va [frc 1 4, nm (frc 1 4 - nm (rootL 3 2 * frc 1 6))] := ⟨howna.lower (by omega), fun k hk => (howna.block k hk).2, Nat.le_refl _⟩
    have hB : OwI 2 wa.heap.size wb.heap.size wb vb [nm (frc 1 4 + nm (rootL 3 2 * frc 1 6)), frc 1 4] := ⟨hownb, fun k hk => (hownb.block k hk).2, Nat.le_refl _⟩
    have hS3 : OwSS 25 2 w1.heap.size w3.heap.size w3 v3 [[frc 1 4, nm (frc 1 4 - nm (rootL 3 2 * frc 1 6))], [nm (frc 1 4 + nm (rootL 3 2 * frc 1 6)), frc 1 4]] :=
      ⟨_, OwSSv.two ((hA.chg (Chg.of_below hblb) (by omega)).chg (Chg.of_below hbl3') (by omega)) (hB.chg (Chg.of_below hbl3') (by omega)) hown3 (by omega) (by omega) (by decide)⟩
    have h13 : Below w1.heap.size w1 w3 := (((hsr.below _).trans (Below.mono hbla (by omega))).trans (Below.mono hblb (by omega))).trans (Below.mono hbl3' (by omega))
    refine WL.step (o_lit (us := Ints [1, 1]) (by rfl) (by rfl) rfl (by decide) Ints_one ?_)
    intro v4 w4 hown4 hbl4 hz4 _
    refine WL.call (l09Row_any 2 (hown4.toIS (Nat.le_refl _)) (by decide)) ?_
    rintro v5 w5 hN5
    have hz13 := h13.size
    have hz5 := hN5.2.size
    have h35 : Below w3.heap.size w3 w5 := hbl4.trans (Below.mono hN5.2 (by omega))
    have h5 : Chg 0 0 w3 w5 := Chg.of_below h35
    have hb5 := (hb1.below h13 (by omega)).below h35 (by omega)
    obtain ⟨a3, n3, c3, rfl⟩ : ∃ a n c, v3 = Value.slice a n c := by obtain ⟨vs, hS⟩ := hS3; obtain ⟨a, c, h, _⟩ := hS.own.shape; exact ⟨_, _, _, h⟩
    obtain ⟨a5, n5, c5, rfl⟩ : ∃ a n c, v5 = Value.slice a n c := by obtain ⟨a, c, h, _⟩ := hN5.1.shape; exact ⟨_, _, _, h⟩
    refine WL.step (o_build (us := [.slice a3 n3 c3, .slice a5 n5 c5]) (cells := [.slice a3 n3 c3, .slice a5 n5 c5]) (by rfl) (by rfl) ?_)
    refine WL.step (o_storeS (vs := [.slice a3 n3 c3, .slice a5 n5 c5]) (by rfl) (by rfl) hb5 (by rfl) (by rfl) (twoC rfl rfl) ?_)
    intro w6 hb6 hbut6
    have hz6 := hbut6.size
    repeat' (first|refine X.O ?_|refine X.A ?_|refine X.B ?_|refine X.C ?_|refine X.D ?_|refine X.E ?_|refine X.F ?_|refine X.G ?_|refine X.H ?_|refine X.I ?_|fail)
    refine ⟨_, retS rfl (by rfl) hb6 (by rfl), ?_, ?_⟩
    · rw [show namedT s = _ from by unfold namedT; simp only [hc0, hc1, if_true, Bool.false_eq_true, if_false]; rfl]
      exact OwT.mk (m := w3.heap.size) (((hS3.chg h5 (by omega)).chg hbut6.chg (by omega)).wide (by omega) (Nat.le_refl _) (by omega)) ((hN5.ow.chg hbut6.chg (by omega)).wide (by omega) (by omega) (Nat.le_refl _)) (by omega) (by omega)
    · exact Chg.of_below (((hbl1.trans (Below.mono h13 (by omega))).trans (Below.mono h35 (by omega))).trans (hbut6.below (Nat.le_refl _)))
  repeat' (first|refine X.O ?_|refine X.A ?_|refine X.B ?_|refine X.C ?_|refine X.D ?_|refine X.E ?_|refine X.F ?_|refine X.G ?_|refine X.H ?_|refine X.I ?_|fail)
  refine WL.step (o_eqS (by rfl) (by rfl) ?_)
  repeat' (first|refine X.O ?_|refine X.A ?_|refine X.B ?_|refine X.C ?_|refine X.D ?_|refine X.E ?_|refine X.F ?_|refine X.G ?_|refine X.H ?_|refine X.I ?_|fail)
  refine WP.cond (by rfl) (fun hc2 => ?_) (fun hc2 => ?_)
  · repeat' (first|refine X.O ?_|refine X.A ?_|refine X.B ?_|refine X.C ?_|refine X.D ?_|refine X.E ?_|refine X.F ?_|refine X.G ?_|refine X.H ?_|refine X.I ?_|fail)
    refine WL.step (o_lit (us := Ints [0, 0, 1, 0]) (by rfl) (by rfl) rfl (by decide) Ints_one ?_)
    intro v1 w2 hown2 hbl2 hz2 _
    refine WL.call (l09Square_any 2 (1) (hown2.toIS (Nat.le_refl _)) (by decide) (by decide)) ?_
    rintro v3 w3 ⟨hS3', hbl3⟩
    have hz3 := hbl3.size
    have hS3 : OwSS 25 2 w1.heap.size w3.heap.size w3 v3 _ := hS3'.imp fun _ h => h.wide (by omega) (Nat.le_refl _) (Nat.le_refl _)
    have h13 : Below w1.heap.size w1 w3 := hbl2.trans (Below.mono hbl3 (by omega))
    refine WL.step (o_lit (us := Ints [1, 1]) (by rfl) (by rfl) rfl (by decide) Ints_one ?_)
    intro v4 w4 hown4 hbl4 hz4 _
    refine WL.call (l09Row_any (2) (hown4.toIS (Nat.le_refl _)) (by decide)) ?_
    rintro v5 w5 hN5
    have hz13 := h13.size
    have hz5 := hN5.2.size
    have h35 : Below w3.heap.size w3 w5 := hbl4.trans (Below.mono hN5.2 (by omega))
    have h5 : Chg 0 0 w3 w5 := Chg.of_below h35
    have hb5 := (hb1.below h13 (by omega)).below h35 (by omega)
    obtain ⟨a3, n3, c3, rfl⟩ : ∃ a n c, v3 = Value.slice a n c := by obtain ⟨vs, hS⟩ := hS3; obtain ⟨a, c, h, _⟩ := hS.own.shape; exact ⟨_, _, _, h⟩
    obtain ⟨a5, n5, c5, rfl⟩ : ∃ a n c, v5 = Value.slice a n c := by obtain ⟨a, c, h, _⟩ := hN5.1.shape; exact ⟨_, _, _, h⟩
    refine WL.step (o_build (us := [.slice a3 n3 c3, .slice a5 n5 c5]) (cells := [.slice a3 n3 c3, .slice a5 n5 c5]) (by rfl) (by rfl) ?_)
    refine WL.step (o_storeS (vs := [.slice a3 n3 c3, .slice a5 n5 c5]) (by rfl) (by rfl) hb5 (by rfl) (by rfl) (twoC rfl rfl) ?_)
    intro w6 hb6 hbut6
    have hz6 := hbut6.size
    repeat' (first|refine X.O ?_|refine X.A ?_|refine X.B ?_|refine X.C ?_|refine X.D ?_|refine X.E ?_|refine X.F ?_|refine X.G ?_|refine X.H ?_|refine X.I ?_|fail)
    refine ⟨_, retS rfl (by rfl) hb6 (by rfl), ?_, ?_⟩
    · rw [show namedT s = _ from by unfold namedT; simp only [hc0, hc1, hc2, if_true, Bool.false_eq_true, if_false]; rfl]
      exact OwT.mk (m := w3.heap.size) (((hS3.chg h5 (by omega)).chg hbut6.chg (by omega)).wide (by omega) (Nat.le_refl _) (by omega)) ((hN5.ow.chg hbut6.chg (by omega)).wide (by omega) (by omega) (Nat.le_refl _)) (by omega) (by omega)
    · exact Chg.of_below (((hbl1.trans (Below.mono h13 (by omega))).trans (Below.mono h35 (by omega))).trans (hbut6.below (Nat.le_refl _)))
  repeat' (first|refine X.O ?_|refine X.A ?_|refine X.B ?_|refine X.C ?_|refine X.D ?_|refine X.E ?_|refine X.F ?_|refine X.G ?_|refine X.H ?_|refine X.I ?_|fail)
  refine WL.step (o_eqS (by rfl) (by rfl) ?_)
  repeat' (first|refine X.O ?_|refine X.A ?_|refine X.B ?_|refine X.C ?_|refine X.D ?_|refine X.E ?_|refine X.F ?_|refine X.G ?_|refine X.H ?_|refine X.I ?_|fail)
  refine WP.cond (by rfl) (fun hc3 => ?_) (fun hc3 => ?_)
  · repeat' (first|refine X.O ?_|refine X.A ?_|refine X.B ?_|refine X.C ?_|refine X.D ?_|refine X.E ?_|refine X.F ?_|refine X.G ?_|refine X.H ?_|refine X.I ?_|fail)
    refine WL.step (o_lit (us := Ints [1]) (by rfl) (by rfl) rfl (by decide) Ints_one ?_)
    intro v1 w2 hown2 hbl2 hz2 _
    refine WL.call (l09Square_any 1 (1) (hown2.toIS (Nat.le_refl _)) (by decide) (by decide)) ?_
    rintro v3 w3 ⟨hS3', hbl3⟩
    have hz3 := hbl3.size
    have hS3 : OwSS 25 2 w1.heap.size w3.heap.size w3 v3 _ := hS3'.imp fun _ h => h.wide (by omega) (Nat.le_refl _) (Nat.le_refl _)
    have h13 : Below w1.heap.size w1 w3 := hbl2.trans (Below.mono hbl3 (by omega))
    refine WL.step (o_lit (us := Ints [1]) (by rfl) (by rfl) rfl (by decide) Ints_one ?_)
    intro v4 w4 hown4 hbl4 hz4 _
    refine WL.call (l09Row_any (1) (hown4.toIS (Nat.le_refl _)) (by decide)) ?_
    rintro v5 w5 hN5
    have hz13 := h13.size
    have hz5 := hN5.2.size
    have h35 : Below w3.heap.size w3 w5 := hbl4.trans (Below.mono hN5.2 (by omega))
    have h5 : Chg 0 0 w3 w5 := Chg.of_below h35
    have hb5 := (hb1.below h13 (by omega)).below h35 (by omega)
    obtain ⟨a3, n3, c3, rfl⟩ : ∃ a n c, v3 = Value.slice a n c := by obtain ⟨vs, hS⟩ := hS3; obtain ⟨a, c, h, _⟩ := hS.own.shape; exact ⟨_, _, _, h⟩
    obtain ⟨a5, n5, c5, rfl⟩ : ∃ a n c, v5 = Value.slice a n c := by obtain ⟨a, c, h, _⟩ := hN5.1.shape; exact ⟨_, _, _, h⟩
    refine WL.step (o_build (us := [.slice a3 n3 c3, .slice a5 n5 c5]) (cells := [.slice a3 n3 c3, .slice a5 n5 c5]) (by rfl) (by rfl) ?_)
    refine WL.step (o_storeS (vs := [.slice a3 n3 c3, .slice a5 n5 c5]) (by rfl) (by rfl) hb5 (by rfl) (by rfl) (twoC rfl rfl) ?_)
    intro w6 hb6 hbut6
    have hz6 := hbut6.size
    repeat' (first|refine X.O ?_|refine X.A ?_|refine X.B ?_|refine X.C ?_|refine X.D ?_|refine X.E ?_|refine X.F ?_|refine X.G ?_|refine X.H ?_|refine X.I ?_|fail)
    refine ⟨_, retS rfl (by rfl) hb6 (by rfl), ?_, ?_⟩
    · rw [show namedT s = _ from by unfold namedT; simp only [hc0, hc1, hc2, hc3, if_true, Bool.false_eq_true, if_false]; rfl]
      exact OwT.mk (m := w3.heap.size) (((hS3.chg h5 (by omega)).chg hbut6.chg (by omega)).wide (by omega) (Nat.le_refl _) (by omega)) ((hN5.ow.chg hbut6.chg (by omega)).wide (by omega) (by omega) (Nat.le_refl _)) (by omega) (by omega)
    · exact Chg.of_below (((hbl1.trans (Below.mono h13 (by omega))).trans (Below.mono h35 (by omega))).trans (hbut6.below (Nat.le_refl _)))
  repeat' (first|refine X.O ?_|refine X.A ?_|refine X.B ?_|refine X.C ?_|refine X.D ?_|refine X.E ?_|refine X.F ?_|refine X.G ?_|refine X.H ?_|refine X.I ?_|fail)
  refine WL.step (o_eqS (by rfl) (by rfl) ?_)
  repeat' (first|refine X.O ?_|refine X.A ?_|refine X.B ?_|refine X.C ?_|refine X.D ?_|refine X.E ?_|refine X.F ?_|refine X.G ?_|refine X.H ?_|refine X.I ?_|fail)
  refine WP.cond (by rfl) (fun hc4 => ?_) (fun hc4 => ?_)
  · repeat' (first|refine X.O ?_|refine X.A ?_|refine X.B ?_|refine X.C ?_|refine X.D ?_|refine X.E ?_|refine X.F ?_|refine X.G ?_|refine X.H ?_|refine X.I ?_|fail)
    refine WL.step (o_lit (us := Ints [0, 0, 0, 1, 0, 0, -2, 4, 0]) (by rfl) (by rfl) rfl (by decide) Ints_one ?_)
    intro v1 w2 hown2 hbl2 hz2 _
    refine WL.call (l09Square_any 3 (2) (hown2.toIS (Nat.le_refl _)) (by decide) (by decide)) ?_
    rintro v3 w3 ⟨hS3', hbl3⟩
    have hz3 := hbl3.size
    have hS3 : OwSS 25 2 w1.heap.size w3.heap.size w3 v3 _ := hS3'.imp fun _ h => h.wide (by omega) (Nat.le_refl _) (Nat.le_refl _)
    have h13 : Below w1.heap.size w1 w3 := hbl2.trans (Below.mono hbl3 (by omega))
    refine WL.step (o_lit (us := Ints [1, 4, 1]) (by rfl) (by rfl) rfl (by decide) Ints_one ?_)
    intro v4 w4 hown4 hbl4 hz4 _
    refine WL.call (l09Row_any (6) (hown4.toIS (Nat.le_refl _)) (by decide)) ?_
    rintro v5 w5 hN5
    have hz13 := h13.size
    have hz5 := hN5.2.size
    have h35 : Below w3.heap.size w3 w5 := hbl4.trans (Below.mono hN5.2 (by omega))
    have h5 : Chg 0 0 w3 w5 := Chg.of_below h35
    have hb5 := (hb1.below h13 (by omega)).below h35 (by omega)
    obtain ⟨a3, n3, c3, rfl⟩ : ∃ a n c, v3 = Value.slice a n c := by obtain ⟨vs, hS⟩ := hS3; obtain ⟨a, c, h, _⟩ := hS.own.shape; exact ⟨_, _, _, h⟩
    obtain ⟨a5, n5, c5, rfl⟩ : ∃ a n c, v5 = Value.slice a n c := by obtain ⟨a, c, h, _⟩ := hN5.1.shape; exact ⟨_, _, _, h⟩
    refine WL.step (o_build (us := [.slice a3 n3 c3, .slice a5 n5 c5]) (cells := [.slice a3 n3 c3, .slice a5 n5 c5]) (by rfl) (by rfl) ?_)
    refine WL.step (o_storeS (vs := [.slice a3 n3 c3, .slice a5 n5 c5]) (by rfl) (by rfl) hb5 (by rfl) (by rfl) (twoC rfl rfl) ?_)
    intro w6 hb6 hbut6
    have hz6 := hbut6.size
    repeat' (first|refine X.O ?_|refine X.A ?_|refine X.B ?_|refine X.C ?_|refine X.D ?_|refine X.E ?_|refine X.F ?_|refine X.G ?_|refine X.H ?_|refine X.I ?_|fail)
    refine ⟨_, retS rfl (by rfl) hb6 (by rfl), ?_, ?_⟩
    · rw [show namedT s = _ from by unfold namedT; simp only [hc0, hc1, hc2, hc3, hc4, if_true, Bool.false_eq_true, if_false]; rfl]
      exact OwT.mk (m := w3.heap.size) (((hS3.chg h5 (by omega)).chg hbut6.chg (by omega)).wide (by omega) (Nat.le_refl _) (by omega)) ((hN5.ow.chg hbut6.chg (by omega)).wide (by omega) (by omega) (Nat.le_refl _)) (by omega) (by omega)
    · exact Chg.of_below (((hbl1.trans (Below.mono h13 (by omega))).trans (Below.mono h35 (by omega))).trans (hbut6.below (Nat.le_refl _)))
  repeat' (first|refine X.O ?_|refine X.A ?_|refine X.B ?_|refine X.C ?_|refine X.D ?_|refine X.E ?_|refine X.F ?_|refine X.G ?_|refine X.H ?_|refine X.I ?_|fail)
  refine WL.step (o_eqS (by rfl) (by rfl) ?_)
  repeat' (first|refine X.O ?_|refine X.A ?_|refine X.B ?_|refine X.C ?_|refine X.D ?_|refine X.E ?_|refine X.F ?_|refine X.G ?_|refine X.H ?_|refine X.I ?_|fail)
  refine WP.cond (by rfl) (fun hc5 => ?_) (fun hc5 => ?_)
  · repeat' (first|refine X.O ?_|refine X.A ?_|refine X.B ?_|refine X.C ?_|refine X.D ?_|refine X.E ?_|refine X.F ?_|refine X.G ?_|refine X.H ?_|refine X.I ?_|fail)
    refine WL.step (o_lit (us := Ints [0, 0, 0, 5, 8, -1, 4, 16, 4]) (by rfl) (by rfl) rfl (by decide) Ints_one ?_)
    intro v1 w2 hown2 hbl2 hz2 _
    refine WL.call (l09Square_any 3 (24) (hown2.toIS (Nat.le_refl _)) (by decide) (by decide)) ?_
    rintro v3 w3 ⟨hS3', hbl3⟩
    have hz3 := hbl3.size
    have hS3 : OwSS 25 2 w1.heap.size w3.heap.size w3 v3 _ := hS3'.imp fun _ h => h.wide (by omega) (Nat.le_refl _) (Nat.le_refl _)
    have h13 : Below w1.heap.size w1 w3 := hbl2.trans (Below.mono hbl3 (by omega))
    refine WL.step (o_lit (us := Ints [1, 4, 1]) (by rfl) (by rfl) rfl (by decide) Ints_one ?_)
    intro v4 w4 hown4 hbl4 hz4 _
    refine WL.call (l09Row_any (6) (hown4.toIS (Nat.le_refl _)) (by decide)) ?_
    rintro v5 w5 hN5
    have hz13 := h13.size
    have hz5 := hN5.2.size
    have h35 : Below w3.heap.size w3 w5 := hbl4.trans (Below.mono hN5.2 (by omega))
    have h5 : Chg 0 0 w3 w5 := Chg.of_below h35
    have hb5 := (hb1.below h13 (by omega)).below h35 (by omega)
    obtain ⟨a3, n3, c3, rfl⟩ : ∃ a n c, v3 = Value.slice a n c := by obtain ⟨vs, hS⟩ := hS3; obtain ⟨a, c, h, _⟩ := hS.own.shape; exact ⟨_, _, _, h⟩
    obtain ⟨a5, n5, c5, rfl⟩ : ∃ a n c, v5 = Value.slice a n c := by obtain ⟨a, c, h, _⟩ := hN5.1.shape; exact ⟨_, _, _, h⟩
    refine WL.step (o_build (us := [.slice a3 n3 c3, .slice a5 n5 c5]) (cells := [.slice a3 n3 c3, .slice a5 n5 c5]) (by rfl) (by rfl) ?_)
    refine WL.step (o_storeS (vs := [.slice a3 n3 c3, .slice a5 n5 c5]) (by rfl) (by rfl) hb5 (by rfl) (by rfl) (twoC rfl rfl) ?_)
    intro w6 hb6 hbut6
    have hz6 := hbut6.size
    repeat' (first|refine X.O ?_|refine X.A ?_|refine X.B ?_|refine X.C ?_|refine X.D ?_|refine X.E ?_|refine X.F ?_|refine X.G ?_|refine X.H ?_|refine X.I ?_|fail)
    refine ⟨_, retS rfl (by rfl) hb6 (by rfl), ?_, ?_⟩
    · rw [show namedT s = _ from by unfold namedT; simp only [hc0, hc1, hc2, hc3, hc4, hc5, if_true, Bool.false_eq_true, if_false]; rfl]
      exact OwT.mk (m := w3.heap.size) (((hS3.chg h5 (by omega)).chg hbut6.chg (by omega)).wide (by omega) (Nat.le_refl _) (by omega)) ((hN5.ow.chg hbut6.chg (by omega)).wide (by omega) (by omega) (Nat.le_refl _)) (by omega) (by omega)
    · exact Chg.of_below (((hbl1.trans (Below.mono h13 (by omega))).trans (Below.mono h35 (by omega))).trans (hbut6.below (Nat.le_refl _)))
  repeat' (first|refine X.O ?_|refine X.A ?_|refine X.B ?_|refine X.C ?_|refine X.D ?_|refine X.E ?_|refine X.F ?_|refine X.G ?_|refine X.H ?_|refine X.I ?_|fail)
  refine WL.step (o_eqS (by rfl) (by rfl) ?_)
  repeat' (first|refine X.O ?_|refine X.A ?_|refine X.B ?_|refine X.C ?_|refine X.D ?_|refine X.E ?_|refine X.F ?_|refine X.G ?_|refine X.H ?_|refine X.I ?_|fail)
  refine WP.cond (by rfl) (fun hc6 => ?_) (fun hc6 => ?_)
  · repeat' (first|refine X.O ?_|refine X.A ?_|refine X.B ?_|refine X.C ?_|refine X.D ?_|refine X.E ?_|refine X.F ?_|refine X.G ?_|refine X.H ?_|refine X.I ?_|fail)
    refine WL.step (o_lit (us := Ints [1]) (by rfl) (by rfl) rfl (by decide) Ints_one ?_)
    intro v1 w2 hown2 hbl2 hz2 _
    refine WL.call (l09Square_any 1 (2) (hown2.toIS (Nat.le_refl _)) (by decide) (by decide)) ?_
    rintro v3 w3 ⟨hS3', hbl3⟩
    have hz3 := hbl3.size
    have hS3 : OwSS 25 2 w1.heap.size w3.heap.size w3 v3 _ := hS3'.imp fun _ h => h.wide (by omega) (Nat.le_refl _) (Nat.le_refl _)
    have h13 : Below w1.heap.size w1 w3 := hbl2.trans (Below.mono hbl3 (by omega))
    refine WL.step (o_lit (us := Ints [1]) (by rfl) (by rfl) rfl (by decide) Ints_one ?_)
    intro v4 w4 hown4 hbl4 hz4 _
    refine WL.call (l09Row_any (1) (hown4.toIS (Nat.le_refl _)) (by decide)) ?_
    rintro v5 w5 hN5
    have hz13 := h13.size
    have hz5 := hN5.2.size
    have h35 : Below w3.heap.size w3 w5 := hbl4.trans (Below.mono hN5.2 (by omega))
    have h5 : Chg 0 0 w3 w5 := Chg.of_below h35
    have hb5 := (hb1.below h13 (by omega)).below h35 (by omega)
    obtain ⟨a3, n3, c3, rfl⟩ : ∃ a n c, v3 = Value.slice a n c := by obtain ⟨vs, hS⟩ := hS3; obtain ⟨a, c, h, _⟩ := hS.own.shape; exact ⟨_, _, _, h⟩
    obtain ⟨a5, n5, c5, rfl⟩ : ∃ a n c, v5 = Value.slice a n c := by obtain ⟨a, c, h, _⟩ := hN5.1.shape; exact ⟨_, _, _, h⟩
    refine WL.step (o_build (us := [.slice a3 n3 c3, .slice a5 n5 c5]) (cells := [.slice a3 n3 c3, .slice a5 n5 c5]) (by rfl) (by rfl) ?_)
    refine WL.step (o_storeS (vs := [.slice a3 n3 c3, .slice a5 n5 c5]) (by rfl) (by rfl) hb5 (by rfl) (by rfl) (twoC rfl rfl) ?_)
    intro w6 hb6 hbut6
    have hz6 := hbut6.size
    repeat' (first|refine X.O ?_|refine X.A ?_|refine X.B ?_|refine X.C ?_|refine X.D ?_|refine X.E ?_|refine X.F ?_|refine X.G ?_|refine X.H ?_|refine X.I ?_|fail)
    refine ⟨_, retS rfl (by rfl) hb6 (by rfl), ?_, ?_⟩
    · rw [show namedT s = _ from by unfold namedT; simp only [hc0, hc1, hc2, hc3, hc4, hc5, hc6, if_true, Bool.false_eq_true, if_false]; rfl]
      exact OwT.mk (m := w3.heap.size) (((hS3.chg h5 (by omega)).chg hbut6.chg (by omega)).wide (by omega) (Nat.le_refl _) (by omega)) ((hN5.ow.chg hbut6.chg (by omega)).wide (by omega) (by omega) (Nat.le_refl _)) (by omega) (by omega)
    · exact Chg.of_below (((hbl1.trans (Below.mono h13 (by omega))).trans (Below.mono h35 (by omega))).trans (hbut6.below (Nat.le_refl _)))
  repeat' (first|refine X.O ?_|refine X.A ?_|refine X.B ?_|refine X.C ?_|refine X.D ?_|refine X.E ?_|refine X.F ?_|refine X.G ?_|refine X.H ?_|refine X.I ?_|fail)
  refine WL.step (o_eqS (by rfl) (by rfl) ?_)
  repeat' (first|refine X.O ?_|refine X.A ?_|refine X.B ?_|refine X.C ?_|refine X.D ?_|refine X.E ?_|refine X.F ?_|refine X.G ?_|refine X.H ?_|refine X.I ?_|fail)
  refine WP.cond (by rfl) (fun hc7 => ?_) (fun hc7 => ?_)
  · repeat' (first|refine X.O ?_|refine X.A ?_|refine X.B ?_|refine X.C ?_|refine X.D ?_|refine X.E ?_|refine X.F ?_|refine X.G ?_|refine X.H ?_|refine X.I ?_|fail)
    refine WL.step (o_lit (us := Ints [0, 0, 1, 0]) (by rfl) (by rfl) rfl (by decide) Ints_one ?_)
    intro v1 w2 hown2 hbl2 hz2 _
    refine WL.call (l09Square_any 2 (2) (hown2.toIS (Nat.le_refl _)) (by decide) (by decide)) ?_
    rintro v3 w3 ⟨hS3', hbl3⟩
    have hz3 := hbl3.size
    have hS3 : OwSS 25 2 w1.heap.size w3.heap.size w3 v3 _ := hS3'.imp fun _ h => h.wide (by omega) (Nat.le_refl _) (Nat.le_refl _)
    have h13 : Below w1.heap.size w1 w3 := hbl2.trans (Below.mono hbl3 (by omega))
    refine WL.step (o_lit (us := Ints [0, 1]) (by rfl) (by rfl) rfl (by decide) Ints_one ?_)
    intro v4 w4 hown4 hbl4 hz4 _
    refine WL.call (l09Row_any (1) (hown4.toIS (Nat.le_refl _)) (by decide)) ?_
    rintro v5 w5 hN5
    have hz13 := h13.size
    have hz5 := hN5.2.size
    have h35 : Below w3.heap.size w3 w5 := hbl4.trans (Below.mono hN5.2 (by omega))
    have h5 : Chg 0 0 w3 w5 := Chg.of_below h35
    have hb5 := (hb1.below h13 (by omega)).below h35 (by omega)
    obtain ⟨a3, n3, c3, rfl⟩ : ∃ a n c, v3 = Value.slice a n c := by obtain ⟨vs, hS⟩ := hS3; obtain ⟨a, c, h, _⟩ := hS.own.shape; exact ⟨_, _, _, h⟩
    obtain ⟨a5, n5, c5, rfl⟩ : ∃ a n c, v5 = Value.slice a n c := by obtain ⟨a, c, h, _⟩ := hN5.1.shape; exact ⟨_, _, _, h⟩
    refine WL.step (o_build (us := [.slice a3 n3 c3, .slice a5 n5 c5]) (cells := [.slice a3 n3 c3, .slice a5 n5 c5]) (by rfl) (by rfl) ?_)
    refine WL.step (o_storeS (vs := [.slice a3 n3 c3, .slice a5 n5 c5]) (by rfl) (by rfl) hb5 (by rfl) (by rfl) (twoC rfl rfl) ?_)
    intro w6 hb6 hbut6
    have hz6 := hbut6.size
    repeat' (first|refine X.O ?_|refine X.A ?_|refine X.B ?_|refine X.C ?_|refine X.D ?_|refine X.E ?_|refine X.F ?_|refine X.G ?_|refine X.H ?_|refine X.I ?_|fail)
    refine ⟨_, retS rfl (by rfl) hb6 (by rfl), ?_, ?_⟩
    · rw [show namedT s = _ from by unfold namedT; simp only [hc0, hc1, hc2, hc3, hc4, hc5, hc6, hc7, if_true, Bool.false_eq_true, if_false]; rfl]
      exact OwT.mk (m := w3.heap.size) (((hS3.chg h5 (by omega)).chg hbut6.chg (by omega)).wide (by omega) (Nat.le_refl _) (by omega)) ((hN5.ow.chg hbut6.chg (by omega)).wide (by omega) (by omega) (Nat.le_refl _)) (by omega) (by omega)
    · exact Chg.of_below (((hbl1.trans (Below.mono h13 (by omega))).trans (Below.mono h35 (by omega))).trans (hbut6.below (Nat.le_refl _)))
  repeat' (first|refine X.O ?_|refine X.A ?_|refine X.B ?_|refine X.C ?_|refine X.D ?_|refine X.E ?_|refine X.F ?_|refine X.G ?_|refine X.H ?_|refine X.I ?_|fail)
  refine WL.step (o_eqS (by rfl) (by rfl) ?_)
  repeat' (first|refine X.O ?_|refine X.A ?_|refine X.B ?_|refine X.C ?_|refine X.D ?_|refine X.E ?_|refine X.F ?_|refine X.G ?_|refine X.H ?_|refine X.I ?_|fail)
  refine WP.cond (by rfl) (fun hc8 => ?_) (fun hc8 => ?_)
  · repeat' (first|refine X.O ?_|refine X.A ?_|refine X.B ?_|refine X.C ?_|refine X.D ?_|refine X.E ?_|refine X.F ?_|refine X.G ?_|refine X.H ?_|refine X.I ?_|fail)
    refine WL.step (o_lit (us := Ints [5, -1, 9, 3]) (by rfl) (by rfl) rfl (by decide) Ints_one ?_)
    intro v1 w2 hown2 hbl2 hz2 _
    refine WL.call (l09Square_any 2 (12) (hown2.toIS (Nat.le_refl _)) (by decide) (by decide)) ?_
    rintro v3 w3 ⟨hS3', hbl3⟩
    have hz3 := hbl3.size
    have hS3 : OwSS 25 2 w1.heap.size w3.heap.size w3 v3 _ := hS3'.imp fun _ h => h.wide (by omega) (Nat.le_refl _) (Nat.le_refl _)
    have h13 : Below w1.heap.size w1 w3 := hbl2.trans (Below.mono hbl3 (by omega))
    refine WL.step (o_lit (us := Ints [3, 1]) (by rfl) (by rfl) rfl (by decide) Ints_one ?_)
    intro v4 w4 hown4 hbl4 hz4 _
    refine WL.call (l09Row_any (4) (hown4.toIS (Nat.le_refl _)) (by decide)) ?_
    rintro v5 w5 hN5
    have hz13 := h13.size
    have hz5 := hN5.2.size
    have h35 : Below w3.heap.size w3 w5 := hbl4.trans (Below.mono hN5.2 (by omega))
    have h5 : Chg 0 0 w3 w5 := Chg.of_below h35
    have hb5 := (hb1.below h13 (by omega)).below h35 (by omega)
    obtain ⟨a3, n3, c3, rfl⟩ : ∃ a n c, v3 = Value.slice a n c := by obtain ⟨vs, hS⟩ := hS3; obtain ⟨a, c, h, _⟩ := hS.own.shape; exact ⟨_, _, _, h⟩
    obtain ⟨a5, n5, c5, rfl⟩ : ∃ a n c, v5 = Value.slice a n c := by obtain ⟨a, c, h, _⟩ := hN5.1.shape; exact ⟨_, _, _, h⟩
    refine WL.step (o_build (us := [.slice a3 n3 c3, .slice a5 n5 c5]) (cells := [.slice a3 n3 c3, .slice a5 n5 c5]) (by rfl) (by rfl) ?_)
    refine WL.step (o_storeS (vs := [.slice a3 n3 c3, .slice a5 n5 c5]) (by rfl) (by rfl) hb5 (by rfl) (by rfl) (twoC rfl rfl) ?_)
    intro w6 hb6 hbut6
    have hz6 := hbut6.size
    repeat' (first|refine X.O ?_|refine X.A ?_|refine X.B ?_|refine X.C ?_|refine X.D ?_|refine X.E ?_|refine X.F ?_|refine X.G ?_|refine X.H ?_|refine X.I ?_|fail)
    refine ⟨_, retS rfl (by rfl) hb6 (by rfl), ?_, ?_⟩
    · rw [show namedT s = _ from by unfold namedT; simp only [hc0, hc1, hc2, hc3, hc4, hc5, hc6, hc7, hc8, if_true, Bool.false_eq_true, if_false]; rfl]
      exact OwT.mk (m := w3.heap.size) (((hS3.chg h5 (by omega)).chg hbut6.chg (by omega)).wide (by omega) (Nat.le_refl _) (by omega)) ((hN5.ow.chg hbut6.chg (by omega)).wide (by omega) (by omega) (Nat.le_refl _)) (by omega) (by omega)
    · exact Chg.of_below (((hbl1.trans (Below.mono h13 (by omega))).trans (Below.mono h35 (by omega))).trans (hbut6.below (Nat.le_refl _)))
  repeat' (first|refine X.O ?_|refine X.A ?_|refine X.B ?_|refine X.C ?_|refine X.D ?_|refine X.E ?_|refine X.F ?_|refine X.G ?_|refine X.H ?_|refine X.I ?_|fail)
  refine WL.step (o_eqS (by rfl) (by rfl) ?_)
  repeat' (first|refine X.O ?_|refine X.A ?_|refine X.B ?_|refine X.C ?_|refine X.D ?_|refine X.E ?_|refine X.F ?_|refine X.G ?_|refine X.H ?_|refine X.I ?_|fail)
  refine WP.cond (by rfl) (fun hc9 => ?_) (fun hc9 => ?_)
  · repeat' (first|refine X.O ?_|refine X.A ?_|refine X.B ?_|refine X.C ?_|refine X.D ?_|refine X.E ?_|refine X.F ?_|refine X.G ?_|refine X.H ?_|refine X.I ?_|fail)
    refine WL.step (o_lit (us := Ints [0, 0, 2, 0]) (by rfl) (by rfl) rfl (by decide) Ints_one ?_)
    intro v1 w2 hown2 hbl2 hz2 _
    refine WL.call (l09Square_any 2 (3) (hown2.toIS (Nat.le_refl _)) (by decide) (by decide)) ?_
    rintro v3 w3 ⟨hS3', hbl3⟩
    have hz3 := hbl3.size
    have hS3 : OwSS 25 2 w1.heap.size w3.heap.size w3 v3 _ := hS3'.imp fun _ h => h.wide (by omega) (Nat.le_refl _) (Nat.le_refl _)
    have h13 : Below w1.heap.size w1 w3 := hbl2.trans (Below.mono hbl3 (by omega))
    refine WL.step (o_lit (us := Ints [1, 3]) (by rfl) (by rfl) rfl (by decide) Ints_one ?_)
    intro v4 w4 hown4 hbl4 hz4 _
    refine WL.call (l09Row_any (4) (hown4.toIS (Nat.le_refl _)) (by decide)) ?_
    rintro v5 w5 hN5
    have hz13 := h13.size
    have hz5 := hN5.2.size
    have h35 : Below w3.heap.size w3 w5 := hbl4.trans (Below.mono hN5.2 (by omega))
    have h5 : Chg 0 0 w3 w5 := Chg.of_below h35
    have hb5 := (hb1.below h13 (by omega)).below h35 (by omega)
    obtain ⟨a3, n3, c3, rfl⟩ : ∃ a n c, v3 = Value.slice a n c := by obtain ⟨vs, hS⟩ := hS3; obtain ⟨a, c, h, _⟩ := hS.own.shape; exact ⟨_, _, _, h⟩
    obtain ⟨a5, n5, c5, rfl⟩ : ∃ a n c, v5 = Value.slice a n c := by obtain ⟨a, c, h, _⟩ := hN5.1.shape; exact ⟨_, _, _, h⟩
    refine WL.step (o_build (us := [.slice a3 n3 c3, .slice a5 n5 c5]) (cells := [.slice a3 n3 c3, .slice a5 n5 c5]) (by rfl) (by rfl) ?_)
    refine WL.step (o_storeS (vs := [.slice a3 n3 c3, .slice a5 n5 c5]) (by rfl) (by rfl) hb5 (by rfl) (by rfl) (twoC rfl rfl) ?_)
    intro w6 hb6 hbut6
    have hz6 := hbut6.size
    repeat' (first|refine X.O ?_|refine X.A ?_|refine X.B ?_|refine X.C ?_|refine X.D ?_|refine X.E ?_|refine X.F ?_|refine X.G ?_|refine X.H ?_|refine X.I ?_|fail)
    refine ⟨_, retS rfl (by rfl) hb6 (by rfl), ?_, ?_⟩
    · rw [show namedT s = _ from by unfold namedT; simp only [hc0, hc1, hc2, hc3, hc4, hc5, hc6, hc7, hc8, hc9, if_true, Bool.false_eq_true, if_false]; rfl]
      exact OwT.mk (m := w3.heap.size) (((hS3.chg h5 (by omega)).chg hbut6.chg (by omega)).wide (by omega) (Nat.le_refl _) (by omega)) ((hN5.ow.chg hbut6.chg (by omega)).wide (by omega) (by omega) (Nat.le_refl _)) (by omega) (by omega)
    · exact Chg.of_below (((hbl1.trans (Below.mono h13 (by omega))).trans (Below.mono h35 (by omega))).trans (hbut6.below (Nat.le_refl _)))
  repeat' (first|refine X.O ?_|refine X.A ?_|refine X.B ?_|refine X.C ?_|refine X.D ?_|refine X.E ?_|refine X.F ?_|refine X.G ?_|refine X.H ?_|refine X.I ?_|fail)
  refine WL.step (o_eqS (by rfl) (by rfl) ?_)
  repeat' (first|refine X.O ?_|refine X.A ?_|refine X.B ?_|refine X.C ?_|refine X.D ?_|refine X.E ?_|refine X.F ?_|refine X.G ?_|refine X.H ?_|refine X.I ?_|fail)
  refine WP.cond (by rfl) (fun hc10 => ?_) (fun hc10 => ?_)
  · repeat' (first|refine X.O ?_|refine X.A ?_|refine X.B ?_|refine X.C ?_|refine X.D ?_|refine X.E ?_|refine X.F ?_|refine X.G ?_|refine X.H ?_|refine X.I ?_|fail)
    refine WL.step (o_lit (us := Ints [0, 0, 0, 0, 1, 0, 0, 0, 0, 1, 0, 0, 0, 0, 2, 0]) (by rfl) (by rfl) rfl (by decide) Ints_one ?_)
    intro v1 w2 hown2 hbl2 hz2 _
    refine WL.call (l09Square_any 4 (2) (hown2.toIS (Nat.le_refl _)) (by decide) (by decide)) ?_
    rintro v3 w3 ⟨hS3', hbl3⟩
    have hz3 := hbl3.size
    have hS3 : OwSS 25 2 w1.heap.size w3.heap.size w3 v3 _ := hS3'.imp fun _ h => h.wide (by omega) (Nat.le_refl _) (Nat.le_refl _)
    have h13 : Below w1.heap.size w1 w3 := hbl2.trans (Below.mono hbl3 (by omega))
    refine WL.step (o_lit (us := Ints [1, 2, 2, 1]) (by rfl) (by rfl) rfl (by decide) Ints_one ?_)
    intro v4 w4 hown4 hbl4 hz4 _
    refine WL.call (l09Row_any (6) (hown4.toIS (Nat.le_refl _)) (by decide)) ?_
    rintro v5 w5 hN5
    have hz13 := h13.size
    have hz5 := hN5.2.size
    have h35 : Below w3.heap.size w3 w5 := hbl4.trans (Below.mono hN5.2 (by omega))
    have h5 : Chg 0 0 w3 w5 := Chg.of_below h35
    have hb5 := (hb1.below h13 (by omega)).below h35 (by omega)
    obtain ⟨a3, n3, c3, rfl⟩ : ∃ a n c, v3 = Value.slice a n c := by obtain ⟨vs, hS⟩ := hS3; obtain ⟨a, c, h, _⟩ := hS.own.shape; exact ⟨_, _, _, h⟩
    obtain ⟨a5, n5, c5, rfl⟩ : ∃ a n c, v5 = Value.slice a n c := by obtain ⟨a, c, h, _⟩ := hN5.1.shape; exact ⟨_, _, _, h⟩
    refine WL.step (o_build (us := [.slice a3 n3 c3, .slice a5 n5 c5]) (cells := [.slice a3 n3 c3, .slice a5 n5 c5]) (by rfl) (by rfl) ?_)
    refine WL.step (o_storeS (vs := [.slice a3 n3 c3, .slice a5 n5 c5]) (by rfl) (by rfl) hb5 (by rfl) (by rfl) (twoC rfl rfl) ?_)
    intro w6 hb6 hbut6
    have hz6 := hbut6.size
    repeat' (first|refine X.O ?_|refine X.A ?_|refine X.B ?_|refine X.C ?_|refine X.D ?_|refine X.E ?_|refine X.F ?_|refine X.G ?_|refine X.H ?_|refine X.I ?_|fail)
    refine ⟨_, retS rfl (by rfl) hb6 (by rfl), ?_, ?_⟩
    · rw [show namedT s = _ from by unfold namedT; simp only [hc0, hc1, hc2, hc3, hc4, hc5, hc6, hc7, hc8, hc9, hc10, if_true, Bool.false_eq_true, if_false]; rfl]
      exact OwT.mk (m := w3.heap.size) (((hS3.chg h5 (by omega)).chg hbut6.chg (by omega)).wide (by omega) (Nat.le_refl _) (by omega)) ((hN5.ow.chg hbut6.chg (by omega)).wide (by omega) (by omega) (Nat.le_refl _)) (by omega) (by omega)
    · exact Chg.of_below (((hbl1.trans (Below.mono h13 (by omega))).trans (Below.mono h35 (by omega))).trans (hbut6.below (Nat.le_refl _)))
  repeat' (first|refine X.O ?_|refine X.A ?_|refine X.B ?_|refine X.C ?_|refine X.D ?_|refine X.E ?_|refine X.F ?_|refine X.G ?_|refine X.H ?_|refine X.I ?_|fail)
  refine WL.step (o_lit (us := Ints [0, 0, 1, 1]) (by rfl) (by rfl) rfl (by decide) Ints_one ?_)
  intro v1 w2 hown2 hbl2 hz2 _
  refine WL.call (l09Square_any 2 (2) (hown2.toIS (Nat.le_refl _)) (by decide) (by decide)) ?_
  rintro v3 w3 ⟨hS3', hbl3⟩
  have hz3 := hbl3.size
  have hS3 : OwSS 25 2 w1.heap.size w3.heap.size w3 v3 _ := hS3'.imp fun _ h => h.wide (by omega) (Nat.le_refl _) (Nat.le_refl _)
  have h13 : Below w1.heap.size w1 w3 := hbl2.trans (Below.mono hbl3 (by omega))
  refine WL.step (o_lit (us := Ints [1, 1]) (by rfl) (by rfl) rfl (by decide) Ints_one ?_)
  intro v4 w4 hown4 hbl4 hz4 _
  refine WL.call (l09Row_any (2) (hown4.toIS (Nat.le_refl _)) (by decide)) ?_
  rintro v5 w5 hN5
  have hz13 := h13.size
  have hz5 := hN5.2.size
  have h35 : Below w3.heap.size w3 w5 := hbl4.trans (Below.mono hN5.2 (by omega))
  have h5 : Chg 0 0 w3 w5 := Chg.of_below h35
  have hb5 := (hb1.below h13 (by omega)).below h35 (by omega)
  obtain ⟨a3, n3, c3, rfl⟩ : ∃ a n c, v3 = Value.slice a n c := by obtain ⟨vs, hS⟩ := hS3; obtain ⟨a, c, h, _⟩ := hS.own.shape; exact ⟨_, _, _, h⟩
  obtain ⟨a5, n5, c5, rfl⟩ : ∃ a n c, v5 = Value.slice a n c := by obtain ⟨a, c, h, _⟩ := hN5.1.shape; exact ⟨_, _, _, h⟩
  refine WL.step (o_build (us := [.slice a3 n3 c3, .slice a5 n5 c5]) (cells := [.slice a3 n3 c3, .slice a5 n5 c5]) (by rfl) (by rfl) ?_)
  refine WL.step (o_storeS (vs := [.slice a3 n3 c3, .slice a5 n5 c5]) (by rfl) (by rfl) hb5 (by rfl) (by rfl) (twoC rfl rfl) ?_)
  intro w6 hb6 hbut6
  have hz6 := hbut6.size
  repeat' (first|refine X.O ?_|refine X.A ?_|refine X.B ?_|refine X.C ?_|refine X.D ?_|refine X.E ?_|refine X.F ?_|refine X.G ?_|refine X.H ?_|refine X.I ?_|fail)
  refine ⟨_, retS rfl (by rfl) hb6 (by rfl), ?_, ?_⟩
  · rw [show namedT s = _ from by unfold namedT; simp only [hc0, hc1, hc2, hc3, hc4, hc5, hc6, hc7, hc8, hc9, hc10, Bool.false_eq_true, if_false]; rfl]
    exact OwT.mk (m := w3.heap.size) (((hS3.chg h5 (by omega)).chg hbut6.chg (by omega)).wide (by omega) (Nat.le_refl _) (by omega)) ((hN5.ow.chg hbut6.chg (by omega)).wide (by omega) (by omega) (Nat.le_refl _)) (by omega) (by omega)
  · exact Chg.of_below (((hbl1.trans (Below.mono h13 (by omega))).trans (Below.mono h35 (by omega))).trans (hbut6.below (Nat.le_refl _)))
end Go.Proofs
