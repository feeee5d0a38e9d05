/- From a row's own reading of a tableau to the reading that the walks lean on. -/
import Derived.Test.YthepgmajeljdhaaDoorRow0
import Derived.Test.YthepgmajeljdhaaDoorHB
import Derived.Lib.SmallJoins
import Derived.Deep.Matrix
namespace Go.Proofs
open Go Go.Fw Go.RowKit Go.ChangeShapes Go.WideShapes

/-- A row of a slice of slices, as the opening gives it. -/
theorem row_is {w : World} {A : Option Addr} {L C : Nat} {Z : List Int} (hl : L ≤ C) (hm : C ≤ maxLen) (hz : Z.length = C) (hw : ∀ n ∈ Z, (Lit.int .i64 n).wf = true) (hn : A = none → C = 0)
    (hc : ∀ a', A = some a' → ∀ c, c < C → w.cell? (a'.add c) = some (.int .i64 (Z.getD c 0))) : IsRow w A L C Z := by
  cases A with
  | none =>
    have := hn rfl
    subst this
    exact .inl ⟨rfl, by omega, rfl, List.eq_nil_of_length_eq_zero hz⟩
  | some x => exact .inr ⟨x, rfl, hl, hm, hz, fun i hi => hc x rfl i (by omega), hw⟩

theorem rows_is {H : Type} {enc : TypeId × Value → H} {w : World} {base fuel : Nat} {held : Bool} {u : Value} {x : DataW H × List MemPlace}
    (hu : ∃ b n c, u = .slice b n c) (h : DataW.trod enc Tryd.prog w base (fun _ => true) held fuel 22 [u] = some x) :
    ∃ xss, ISS 0 w.heap.size w u xss ∧ ∀ xs ∈ xss, ∀ n ∈ xs, InI n := by
  rcases Go.Deep.open_int_rows Tryd.underlying22 Tryd.underlying23 Tryd.underlying2 (by kernel_rfl) (by kernel_rfl) h with ⟨hcs, _⟩ | ⟨a, len, cap, A, L, C, Z, hcs, _, hl, hm, _, hr⟩
  · simp at hcs
    subst hcs
    exact ⟨[], ⟨Nat.le_refl _, none, 0, rfl, Nat.zero_le _, ⟨Nat.le_refl _, fun _ => rfl⟩, fun i x h => by simp at h⟩, fun xs h => by simp at h⟩
  · simp at hcs
    subst hcs
    refine ⟨(List.range len).map fun r => (Z r).take (L r), ⟨Nat.le_refl _, some a, cap, by simp, by simp; omega, ⟨by simp; omega, fun h => by cases h⟩, fun i y hy => ?_⟩, fun xs hxs n hn => ?_⟩
    · have hi : i < len := by have := (List.getElem?_eq_some_iff.1 hy).1; simpa using this
      simp [List.getElem?_range hi] at hy
      obtain ⟨h1, h2, h3, h4, h5, h6, h7⟩ := hr i (by omega)
      have hrow : IsRow w (A i) (L i) (C i) (Z i) := row_is h2 h3 h4 h5 h6 fun a' ha' => (h7 a' ha').2
      have h0 := (hr 0 (by omega)).1
      rw [show a.add 0 = a from by simp [Addr.add]] at h0
      obtain ⟨hx, hb⟩ := addr_of_cell h0
      rw [hx, add_lit] at h1
      exact ⟨a.block, a.off, _, by rw [← hx], Nat.zero_le _, hb, h1, by rw [← hy]; exact hrow.is⟩
    · obtain ⟨r, hr', rfl⟩ := List.mem_map.1 hxs
      obtain ⟨h1, h2, h3, h4, h5, h6, h7⟩ := hr r (by have := List.mem_range.1 hr'; omega)
      exact (row_is h2 h3 h4 h5 h6 fun a' ha' => (h7 a' ha').2 : IsRow w (A r) (L r) (C r) (Z r)).wf n hn

theorem ints_is {H : Type} {enc : TypeId × Value → H} {w : World} {base fuel : Nat} {held : Bool} {u : Value} {x : DataW H × List MemPlace}
    (h : DataW.trod enc Tryd.prog w base (fun _ => true) held fuel 23 [u] = some x) : ∃ xs, IS 0 w.heap.size w u xs ∧ ∀ n ∈ xs, InI n := by
  rcases open_ints Tryd.underlying23 Tryd.underlying2 (by kernel_rfl) h with ⟨hcs, _⟩ | ⟨a, l, c, zs, hcs, _, hl, hm, hz, _, hcell, hwz⟩
  · simp at hcs
    subst hcs
    have : IsRow w none 0 0 [] := .inl ⟨rfl, rfl, rfl, rfl⟩
    exact ⟨_, this.is, this.wf⟩
  · simp at hcs
    subst hcs
    have : IsRow w (some a) l c zs := .inr ⟨_, rfl, hl, hm, by simpa using hz, hcell, hwz⟩
    exact ⟨_, this.is, this.wf⟩

/-- Every number of a tableau is an int64. -/
def TabIn (x : TabD) : Prop := (∀ r ∈ x.1, ∀ n ∈ r, InI n) ∧ ∀ n ∈ x.2, InI n

set_option maxRecDepth 100000 in
theorem open_tab {H : Type} {enc : TypeId × Value → H} {w : World} {r : Reach} {b0 base : Nat} {held : Bool} {v : Value} {d : DataW H} {p : List MemPlace}
    (hv : Value.okWide Tryd.prog w r b0 25 v) (h : DataW.Trod enc Tryd.prog w base (fun _ => true) held 25 v d p) : ∃ x, IT 0 w.heap.size w v x ∧ TabIn x := by
  obtain ⟨v0, v1, y0, y1, n, rfl, _, _, h0, h1⟩ := Go.Joins.open_agg2 Tryd.underlying25 (by kernel_rfl) (by kernel_rfl) hv h
  obtain ⟨xs, hB, hBw⟩ := ints_is h1
  obtain ⟨xss, hA, hAw⟩ := rows_is (by
    rcases Go.Deep.open_int_rows Tryd.underlying22 Tryd.underlying23 Tryd.underlying2 (by kernel_rfl) (by kernel_rfl) h0 with ⟨hcs, _⟩ | ⟨a, len, cap, A, L, C, Z, hcs, _⟩
    · simp at hcs; exact ⟨_, _, _, hcs⟩
    · simp at hcs; exact ⟨_, _, _, hcs⟩) h0
  exact ⟨(xss, xs), ⟨v0, v1, rfl, hA, hB⟩, hAw, hBw⟩
end Go.Proofs
