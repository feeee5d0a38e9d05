/- The drawn tableaus: l09Draw. -/
import Derived.Test.YtncilhecdihmeaaGreatD1
import Derived.Test.YtncilhecdihmeaaGreatD2
set_option maxRecDepth 8000
namespace Go.Fw
open Go Go.RowKit Go.Rk
/-- A tableau with n stages. -/
def Sq (n : Nat) (x : TabD) : Prop := x.1.length = n ∧ (∀ r ∈ x.1, r.length = n) ∧ x.2.length = n
theorem sq_named (s : Nat) (q q' : Int) (xs ys : List Int) (h : ys.length = s) : Sq s (sqL s q xs, rowL q' ys) :=
  ⟨sqL_length _ _ _, fun r hr => by
    unfold sqL at hr
    obtain ⟨i, _, rfl⟩ := List.mem_map.1 hr
    exact sqRow_length _ _ _ _, by rw [rowL_length, h]⟩
def SqP (x : TabD) : Prop := ∃ n, 1 ≤ n ∧ n ≤ 4 ∧ Sq n x
theorem sqP_ite {b : Bool} {x y : TabD} (h1 : SqP x) (h2 : SqP y) : SqP (if b then x else y) := by cases b <;> assumption
theorem namedT_sq (s : ByteArray) : SqP (namedT s) := by
  unfold namedT
  refine sqP_ite ⟨1, by omega, by omega, sq_named 1 _ _ _ _ rfl⟩ (sqP_ite ⟨2, by omega, by omega, rfl, (by intro r hr; simp only [gaussT, List.mem_cons, List.not_mem_nil, or_false] at hr; rcases hr with rfl | rfl <;> rfl), rowL_length _ _⟩ ?_)
  refine sqP_ite ⟨2, by omega, by omega, sq_named 2 _ _ _ _ rfl⟩ ?_
  refine sqP_ite ⟨1, by omega, by omega, sq_named 1 _ _ _ _ rfl⟩ ?_
  refine sqP_ite ⟨3, by omega, by omega, sq_named 3 _ _ _ _ rfl⟩ ?_
  refine sqP_ite ⟨3, by omega, by omega, sq_named 3 _ _ _ _ rfl⟩ ?_
  refine sqP_ite ⟨1, by omega, by omega, sq_named 1 _ _ _ _ rfl⟩ ?_
  refine sqP_ite ⟨2, by omega, by omega, sq_named 2 _ _ _ _ rfl⟩ ?_
  refine sqP_ite ⟨2, by omega, by omega, sq_named 2 _ _ _ _ rfl⟩ ?_
  refine sqP_ite ⟨2, by omega, by omega, sq_named 2 _ _ _ _ rfl⟩ ?_
  refine sqP_ite ⟨4, by omega, by omega, sq_named 4 _ _ _ _ rfl⟩ ?_
  exact ⟨2, by omega, by omega, sq_named 2 _ _ _ _ rfl⟩
theorem Drew.then0 {sb : Nat} {a b c : World} (h : Drew sb a b) (h' : Chg 0 0 b c) : Drew sb a c := ⟨h.src.chg h' (Or.inr rfl), h.chg.trans h'.none⟩
theorem Drew.thenBut {sb n : Nat} {a b c : World} (h : Drew sb a b) (h' : But n b c) (h1 : sb < n) (h2 : a.heap.size ≤ n) : Drew sb a c :=
  ⟨h.src.chg h'.chg (Or.inl h1), h.chg.thenBelow (h'.below h2)⟩
theorem Below.chg {m n : Nat} {a b : World} (h : Below m a b) (hn : a.heap.size ≤ n) : Chg m n a b := ⟨h.os, h.tape, h.output, h.size, fun k hk hd => h.block k (by omega)⟩
end Go.Fw
namespace Go.Proofs
open Go Go.Fw Go.RowKit Go.Rk
end Go.Proofs
