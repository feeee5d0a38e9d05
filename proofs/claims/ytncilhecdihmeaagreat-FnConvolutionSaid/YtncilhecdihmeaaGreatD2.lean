/- The named tableaus of the reference. -/
import Derived.Test.YtncilhecdihmeaaGreatA26
import Derived.Test.YtncilhecdihmeaaGreatA5
import Derived.Test.YtncilhecdihmeaaGreatS1
namespace Go.Fw
open Go Go.RowKit Go.Rk
def frc (a q : Int) : Int := nm (nm a * powN (nm q) 10005)
def rowL (q : Int) (xs : List Int) : List Int := xs.map fun x => frc x q
def sqRow (s : Nat) (q : Int) (xs : List Int) (i : Nat) : List Int := (List.range s).map fun k => frc (xs.getD (i * s + k) 0) q
def sqL (s : Nat) (q : Int) (xs : List Int) : List (List Int) := (List.range s).map (sqRow s q xs)
theorem rowL_length (q : Int) (xs : List Int) : (rowL q xs).length = xs.length := by simp [rowL]
theorem sqRow_length (s : Nat) (q : Int) (xs : List Int) (i : Nat) : (sqRow s q xs i).length = s := by simp [sqRow]
theorem sqL_length (s : Nat) (q : Int) (xs : List Int) : (sqL s q xs).length = s := by simp [sqL]
def rootGo (a : Int) (k : Nat) : Nat → Nat → Int
  | 0, _ => -1
  | f + 1, b => if powN b k = a then b else rootGo a k f (b + 1)
def rootL (a : Int) (k : Nat) : Int := rootGo a k 10007 0
theorem rootGo_bd (a : Int) (k : Nat) : ∀ f b, b + f = 10007 → -1 ≤ rootGo a k f b ∧ rootGo a k f b ≤ 10006
  | 0, _, _ => by simp [rootGo]
  | f + 1, b, h => by
    rw [rootGo]
    split
    · omega
    · exact rootGo_bd a k f (b + 1) (by omega)
theorem rootL_bd (a : Int) (k : Nat) : -1 ≤ rootL a k ∧ rootL a k ≤ 10006 := rootGo_bd a k 10007 0 (by omega)
attribute [irreducible] rootL sqL rowL sqRow
def eqS (a b : ByteArray) : Bool := a.toList == b.toList
def gaussT : TabD := ([[frc 1 4, nm (frc 1 4 - nm (rootL 3 2 * frc 1 6))], [nm (frc 1 4 + nm (rootL 3 2 * frc 1 6)), frc 1 4]], rowL 2 [1, 1])
def namedT (s : ByteArray) : TabD := if eqS s ⟨#[101, 117, 108, 101, 114]⟩ then (sqL 1 1 [0], rowL 1 [1]) else if eqS s ⟨#[103, 97, 117, 115, 115]⟩ then gaussT else if eqS s ⟨#[104, 101, 117, 110]⟩ then (sqL 2 1 [0, 0, 1, 0], rowL 2 [1, 1]) else if eqS s ⟨#[105, 109, 112, 108, 105, 99, 105, 116]⟩ then (sqL 1 1 [1], rowL 1 [1]) else if eqS s ⟨#[107, 117, 116, 116, 97]⟩ then (sqL 3 2 [0, 0, 0, 1, 0, 0, -2, 4, 0], rowL 6 [1, 4, 1]) else if eqS s ⟨#[108, 111, 98, 97, 116, 116, 111]⟩ then (sqL 3 24 [0, 0, 0, 5, 8, -1, 4, 16, 4], rowL 6 [1, 4, 1]) else if eqS s ⟨#[109, 105, 100, 100, 108, 101]⟩ then (sqL 1 2 [1], rowL 1 [1]) else if eqS s ⟨#[109, 105, 100, 112, 111, 105, 110, 116]⟩ then (sqL 2 2 [0, 0, 1, 0], rowL 1 [0, 1]) else if eqS s ⟨#[114, 97, 100, 97, 117]⟩ then (sqL 2 12 [5, -1, 9, 3], rowL 4 [3, 1]) else if eqS s ⟨#[114, 97, 108, 115, 116, 111, 110]⟩ then (sqL 2 3 [0, 0, 2, 0], rowL 4 [1, 3]) else if eqS s ⟨#[114, 117, 110, 103, 101]⟩ then (sqL 4 2 [0, 0, 0, 0, 1, 0, 0, 0, 0, 1, 0, 0, 0, 0, 2, 0], rowL 6 [1, 2, 2, 1]) else (sqL 2 2 [0, 0, 1, 1], rowL 2 [1, 1])
section
variable {P : Program} {N : Nat} {Q : Exit → Fr → World → Prop} {S : World → Prop} {l : Fr} {w : World} {ops : Array Oper} {K : Fr → World → Prop}
variable {d : Nat} {ty : TypeId} {pos : String} {af : Array Edge} {g : Option (Nat × Bool)}
theorem o_eqS {x y : Operand} {t t' : TypeId} {a b : ByteArray} (hx : ev l x = some (.string a)) (hy : ev l y = some (.string b)) (k : K ((d, .bool (eqS a b)) :: l) w)
    (hg : wantedL ops l g = some true := by rfl) (hd : Nat.blt d N = true := by rfl) : OpW P N ops Q ⟨some d, .binOp .eql t x y t', ty, pos, af, g⟩ l w K :=
  OpW.val (fun fr ha => by simp [execOp, ha.ev hx, ha.ev hy, binOp, eqGuard, Op.stringOp, eqS]) k hg hd
end
theorem twoC {u u' : Value} (h : u.oneCell' = true) (h' : u'.oneCell' = true) : ∀ x ∈ [u, u'], x.oneCell' = true := fun x hx => by
  simp only [List.mem_cons, List.not_mem_nil, or_false] at hx
  rcases hx with rfl | rfl
  · exact h
  · exact h'
/-- Two new rows in a literal. -/
theorem OwSSv.two {e e2 lo m hi : Nat} {w : World} {v u1 u2 : Value} {xs ys : List Int} (h1 : OwI e2 lo m w u1 xs) (h2 : OwI e2 m hi w u2 ys) (ho : Own hi e w v [u1, u2]) (hm : m ≤ hi) (hlo : lo ≤ m) (hne : e ≠ e2) :
    OwSSv e e2 lo w.heap.size w v [u1, u2] [xs, ys] := by
  have hh := h2.hi_le
  refine ⟨ho.lower (by omega), fun k hk => (ho.block k hk).2, Nat.le_refl _, rfl, fun i u zs hu hz => ?_, fun i j a b hij ha hb k hk => ?_, hne⟩
  · match i, hu, hz with
    | 0, hu, hz => simp at hu hz; subst hu hz; exact h1.wide (Nat.le_refl _) (by omega) (Nat.le_refl _)
    | 1, hu, hz => simp at hu hz; subst hu hz; exact h2.wide (by omega) (by omega) (Nat.le_refl _)
    | n + 2, hu, hz => simp at hu
  · match i, j, hij, ha, hb with
    | 0, 0, hij, _, _ => exact absurd rfl hij
    | 1, 1, hij, _, _ => exact absurd rfl hij
    | 0, 1, _, ha, hb =>
      simp at ha hb; subst ha hb
      intro hk2
      have := h1.lt k hk
      have := (h2.own.block k hk2).1
      omega
    | 1, 0, _, ha, hb =>
      simp at ha hb; subst ha hb
      intro hk2
      have := h1.lt k hk2
      have := (h2.own.block k hk).1
      omega
    | n + 2, _, _, ha, _ => simp at ha
    | 0, n + 2, _, _, hb => simp at hb
    | 1, n + 2, _, _, hb => simp at hb
end Go.Fw
set_option maxRecDepth 60000
namespace Go.Proofs
open Go Go.Fw Go.RowKit Go.Rk
end Go.Proofs
