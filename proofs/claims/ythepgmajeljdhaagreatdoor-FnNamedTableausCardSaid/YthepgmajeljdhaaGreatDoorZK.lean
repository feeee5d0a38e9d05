/- The twelve named tableaus: their names, their texts, and what they are. Printed by gen_zk.py. -/
import Derived.Test.YthepgmajeljdhaaGreatDoorZG
import Derived.Test.YthepgmajeljdhaaGreatDoorD2
set_option maxRecDepth 20000
namespace Go.Rk
open Go.Fw Go.Proofs
def nm12 : List (List UInt8) := [[101, 117, 108, 101, 114],
  [103, 97, 117, 115, 115],
  [104, 101, 117, 110],
  [105, 109, 112, 108, 105, 99, 105, 116],
  [107, 117, 116, 116, 97],
  [108, 111, 98, 97, 116, 116, 111],
  [109, 105, 100, 100, 108, 101],
  [109, 105, 100, 112, 111, 105, 110, 116],
  [114, 97, 100, 97, 117],
  [114, 97, 108, 115, 116, 111, 110],
  [114, 117, 110, 103, 101],
  [116, 114, 97, 112, 101, 122, 111, 105, 100]]
def tx12 : List (List UInt8) := [[48, 124, 49],
  [49, 47, 52, 32, 49, 47, 52, 59, 49, 47, 52, 32, 49, 47, 52, 124, 49, 47, 50, 32, 49, 47, 50],
  [48, 32, 48, 59, 49, 32, 48, 124, 49, 47, 50, 32, 49, 47, 50],
  [49, 124, 49],
  [48, 32, 48, 32, 48, 59, 49, 47, 50, 32, 48, 32, 48, 59, 45, 49, 32, 50, 32, 48, 124, 49, 47, 54, 32, 50, 47, 51, 32, 49, 47, 54],
  [48, 32, 48, 32, 48, 59, 53, 47, 50, 52, 32, 49, 47, 51, 32, 45, 49, 47, 50, 52, 59, 49, 47, 54, 32, 50, 47, 51, 32, 49, 47, 54, 124, 49, 47, 54, 32, 50, 47, 51, 32, 49, 47, 54],
  [49, 47, 50, 124, 49],
  [48, 32, 48, 59, 49, 47, 50, 32, 48, 124, 48, 32, 49],
  [53, 47, 49, 50, 32, 45, 49, 47, 49, 50, 59, 51, 47, 52, 32, 49, 47, 52, 124, 51, 47, 52, 32, 49, 47, 52],
  [48, 32, 48, 59, 50, 47, 51, 32, 48, 124, 49, 47, 52, 32, 51, 47, 52],
  [48, 32, 48, 32, 48, 32, 48, 59, 49, 47, 50, 32, 48, 32, 48, 32, 48, 59, 48, 32, 49, 47, 50, 32, 48, 32, 48, 59, 48, 32, 48, 32, 49, 32, 48, 124, 49, 47, 54, 32, 49, 47, 51, 32, 49, 47, 51, 32, 49, 47, 54],
  [48, 32, 48, 59, 49, 47, 50, 32, 49, 47, 50, 124, 49, 47, 50, 32, 49, 47, 50]]
def base12 : List TabD := [([[0]], [1]),
  ([[2502, 2502], [2502, 2502]], [5004, 5004]),
  ([[0, 0], [1, 0]], [5004, 5004]),
  ([[1]], [1]),
  ([[0, 0, 0], [5004, 0, 0], [10006, 2, 0]], [1668, 6672, 1668]),
  ([[0, 0, 0], [2085, 3336, 9590], [1668, 6672, 1668]], [1668, 6672, 1668]),
  ([[5004]], [1]),
  ([[0, 0], [5004, 0]], [0, 1]),
  ([[4170, 9173], [7506, 2502]], [7506, 2502]),
  ([[0, 0], [6672, 0]], [2502, 7506]),
  ([[0, 0, 0, 0], [5004, 0, 0, 0], [0, 5004, 0, 0], [0, 0, 1, 0]], [1668, 3336, 3336, 1668]),
  ([[0, 0], [5004, 5004]], [5004, 5004])]
def tab12 : List TabD := [([[0]], [1]),
  ([[2502, 588], [4416, 2502]], [5004, 5004]),
  ([[0, 0], [1, 0]], [5004, 5004]),
  ([[1]], [1]),
  ([[0, 0, 0], [5004, 0, 0], [10006, 2, 0]], [1668, 6672, 1668]),
  ([[0, 0, 0], [2085, 3336, 9590], [1668, 6672, 1668]], [1668, 6672, 1668]),
  ([[5004]], [1]),
  ([[0, 0], [5004, 0]], [0, 1]),
  ([[4170, 9173], [7506, 2502]], [7506, 2502]),
  ([[0, 0], [6672, 0]], [2502, 7506]),
  ([[0, 0, 0, 0], [5004, 0, 0, 0], [0, 5004, 0, 0], [0, 0, 1, 0]], [1668, 3336, 3336, 1668]),
  ([[0, 0], [5004, 5004]], [5004, 5004])]
/-- The text that the program keeps under a name. -/
def textN (s : List UInt8) : List UInt8 × Bool := if s = [101, 117, 108, 101, 114] then ([48, 124, 49], true) else if s = [104, 101, 117, 110] then ([48, 32, 48, 59, 49, 32, 48, 124, 49, 47, 50, 32, 49, 47, 50], true) else if s = [105, 109, 112, 108, 105, 99, 105, 116] then ([49, 124, 49], true) else if s = [107, 117, 116, 116, 97] then ([48, 32, 48, 32, 48, 59, 49, 47, 50, 32, 48, 32, 48, 59, 45, 49, 32, 50, 32, 48, 124, 49, 47, 54, 32, 50, 47, 51, 32, 49, 47, 54], true) else if s = [108, 111, 98, 97, 116, 116, 111] then ([48, 32, 48, 32, 48, 59, 53, 47, 50, 52, 32, 49, 47, 51, 32, 45, 49, 47, 50, 52, 59, 49, 47, 54, 32, 50, 47, 51, 32, 49, 47, 54, 124, 49, 47, 54, 32, 50, 47, 51, 32, 49, 47, 54], true) else if s = [109, 105, 100, 100, 108, 101] then ([49, 47, 50, 124, 49], true) else if s = [109, 105, 100, 112, 111, 105, 110, 116] then ([48, 32, 48, 59, 49, 47, 50, 32, 48, 124, 48, 32, 49], true) else if s = [114, 97, 100, 97, 117] then ([53, 47, 49, 50, 32, 45, 49, 47, 49, 50, 59, 51, 47, 52, 32, 49, 47, 52, 124, 51, 47, 52, 32, 49, 47, 52], true) else if s = [114, 97, 108, 115, 116, 111, 110] then ([48, 32, 48, 59, 50, 47, 51, 32, 48, 124, 49, 47, 52, 32, 51, 47, 52], true) else if s = [114, 117, 110, 103, 101] then ([48, 32, 48, 32, 48, 32, 48, 59, 49, 47, 50, 32, 48, 32, 48, 32, 48, 59, 48, 32, 49, 47, 50, 32, 48, 32, 48, 59, 48, 32, 48, 32, 49, 32, 48, 124, 49, 47, 54, 32, 49, 47, 51, 32, 49, 47, 51, 32, 49, 47, 54], true) else if s = [116, 114, 97, 112, 101, 122, 111, 105, 100] then ([48, 32, 48, 59, 49, 47, 50, 32, 49, 47, 50, 124, 49, 47, 50, 32, 49, 47, 50], true) else if s = [103, 97, 117, 115, 115] then ([49, 47, 52, 32, 49, 47, 52, 59, 49, 47, 52, 32, 49, 47, 52, 124, 49, 47, 50, 32, 49, 47, 50], true) else ([], false)
theorem textN_cases (s : List UInt8) : (textN s = ([], false) ∧ s ∉ nm12) ∨ ∃ i, i < 12 ∧ s = nm12.getD i [] ∧ textN s = (tx12.getD i [], true) := by
  by_cases h : s ∈ nm12
  · refine Or.inr ?_
    obtain ⟨i, hi, rfl⟩ := List.getElem_of_mem h
    refine ⟨i, hi, by rw [List.getD_eq_getElem?_getD, List.getElem?_eq_getElem hi]; rfl, ?_⟩
    have key : (List.range 12).all (fun i => decide (textN (nm12.getD i []) = (tx12.getD i [], true))) = true := by kernel_rfl
    have := of_decide_eq_true (List.all_eq_true.1 key i (List.mem_range.2 hi))
    rw [List.getD_eq_getElem?_getD, List.getElem?_eq_getElem hi] at this
    exact this
  · refine Or.inl ⟨?_, h⟩
    unfold textN
    rw [if_neg (fun e => h (by rw [e]; exact of_decide_eq_true (by kernel_rfl)))]
    rw [if_neg (fun e => h (by rw [e]; exact of_decide_eq_true (by kernel_rfl)))]
    rw [if_neg (fun e => h (by rw [e]; exact of_decide_eq_true (by kernel_rfl)))]
    rw [if_neg (fun e => h (by rw [e]; exact of_decide_eq_true (by kernel_rfl)))]
    rw [if_neg (fun e => h (by rw [e]; exact of_decide_eq_true (by kernel_rfl)))]
    rw [if_neg (fun e => h (by rw [e]; exact of_decide_eq_true (by kernel_rfl)))]
    rw [if_neg (fun e => h (by rw [e]; exact of_decide_eq_true (by kernel_rfl)))]
    rw [if_neg (fun e => h (by rw [e]; exact of_decide_eq_true (by kernel_rfl)))]
    rw [if_neg (fun e => h (by rw [e]; exact of_decide_eq_true (by kernel_rfl)))]
    rw [if_neg (fun e => h (by rw [e]; exact of_decide_eq_true (by kernel_rfl)))]
    rw [if_neg (fun e => h (by rw [e]; exact of_decide_eq_true (by kernel_rfl)))]
    rw [if_neg (fun e => h (by rw [e]; exact of_decide_eq_true (by kernel_rfl)))]
theorem powN_F (a : Int) : powN a 10005 = powF 14 a 1 10005 := (powF_eq 14 a 1 10005 (by decide)).symm
/-- The number of a text, in a form that the kernel reckons. -/
def parsePartsF (ps : List (List UInt8)) : Int × Int :=
  let p0 := ps.headD []
  let neg := negL p0
  let p := valueL (if neg = true then p0.drop 1 else p0)
  let q := if ps.length = 2 then valueL (ps[1]?.getD []) else 1
  if 2 < ps.length ∨ p < 0 ∨ q < 1 ∨ (p = 0 ∧ neg = true) then (0, 6) else if q.tmod 10007 = 0 then (0, 5) else (nm (nm ((if neg = true then -1 else 1) * p) * powF 14 (nm q) 1 10005), 0)
theorem parseNum_F : parseNum = fun t => parsePartsF (split1 47 t) := by
  funext t
  unfold parseNum parseParts parsePartsF
  simp only [powN_F]
def readG (pn : List UInt8 → Int × Int) (s : List UInt8) : List Int × Bool := if (split1 32 s).all (fun p => decide ((pn p).2 = 0)) = true then ((split1 32 s).map (fun p => (pn p).1), true) else ([], false)
def tabG (pn : List UInt8 → Int × Int) (a b : List UInt8) : TabD × Int := if (readG pn b).2 = true ∧ ((split1 59 a).all fun r => (readG pn r).2) = true ∧ isTab ((split1 59 a).map (fun r => (readG pn r).1), (readG pn b).1) = true then (((split1 59 a).map (fun r => (readG pn r).1), (readG pn b).1), 0) else (([], []), 6)
def parseG (pn : List UInt8 → Int × Int) (s : List UInt8) : TabD × Int := if (split1 124 s).length = 2 then tabG pn ((split1 124 s)[0]?.getD []) ((split1 124 s)[1]?.getD []) else (([], []), 6)
theorem readG_eq : readL = readG parseNum := rfl
theorem tabG_eq : tabIf = tabG parseNum := rfl
theorem parseG_eq : parseTab = parseG parseNum := rfl
theorem texts_parse : tx12.map parseTab = base12.map fun x => (x, 0) := by
  rw [parseG_eq, parseNum_F]
  kernel_rfl
theorem text_parse {i : Nat} (h : i < 12) : parseTab (tx12.getD i []) = (base12.getD i ([], []), 0) := by
  have h1 : (tx12.map parseTab)[i]? = (base12.map fun x => (x, 0))[i]? := by rw [texts_parse]
  rw [List.getElem?_map, List.getElem?_map, List.getElem?_eq_getElem (show i < tx12.length from h), List.getElem?_eq_getElem (show i < base12.length from h)] at h1
  simp only [Option.map_some, Option.some.injEq] at h1
  rw [List.getD_eq_getElem?_getD, List.getD_eq_getElem?_getD, List.getElem?_eq_getElem (show i < tx12.length from h), List.getElem?_eq_getElem (show i < base12.length from h)]
  exact h1
theorem eqS_St (a b : List UInt8) : eqS ⟨a.toArray⟩ ⟨b.toArray⟩ = decide (a = b) := by
  unfold eqS
  by_cases h : a = b <;> simp [h]
def frcF (a q : Int) : Int := nm (nm a * powF 14 (nm q) 1 10005)
theorem frc_F : frc = frcF := by
  funext a q
  unfold frc frcF
  rw [powN_F]
def rowG (f : Int → Int → Int) (q : Int) (xs : List Int) : List Int := xs.map fun x => f x q
def sqG (f : Int → Int → Int) (s : Nat) (q : Int) (xs : List Int) : List (List Int) := (List.range s).map fun i => (List.range s).map fun k => f (xs.getD (i * s + k) 0) q
theorem rowG_eq : rowL = rowG frc := by funext q xs; unfold rowL rowG; rfl
theorem sqG_eq : sqL = sqG frc := by funext s q xs; unfold sqL sqG sqRow; rfl
theorem powN_two (b : Int) : powN b 2 = nm (1 * nm (b * b)) := by
  have h := powF_eq 2 b 1 2 (by decide)
  show powGo b 1 2 = _
  rw [← h]
  rfl
theorem rootGo_at {a : Int} {k : Nat} : ∀ (m f b : Nat), m < f → (∀ i, i < m → powN ((b + i : Nat) : Int) k ≠ a) → powN ((b + m : Nat) : Int) k = a → rootGo a k f b = ((b + m : Nat) : Int)
  | m, 0, b, h, _, _ => absurd h (Nat.not_lt_zero _)
  | 0, f + 1, b, _, _, h2 => by rw [rootGo, if_pos (by simpa using h2)]; simp
  | m + 1, f + 1, b, h, h1, h2 => by
    rw [rootGo, if_neg (by simpa using h1 0 (by omega))]
    rw [rootGo_at m f (b + 1) (by omega) (fun i hi => by have := h1 (i + 1) (by omega); rwa [show b + (i + 1) = b + 1 + i by omega] at this) (by rwa [show b + 1 + m = b + (m + 1) by omega])]
    rw [show b + 1 + m = b + (m + 1) by omega]
theorem sq_tab : ((List.range 1477).all fun i => decide (nm (1 * nm ((i : Int) * (i : Int))) ≠ 3)) = true := by kernel_rfl
theorem sq_ne {i : Nat} (h : i < 1477) : nm ((i : Int) * (i : Int)) ≠ 3 := by
  have := of_decide_eq_true (List.all_eq_true.1 sq_tab i (List.mem_range.2 h))
  rwa [Int.one_mul, nm_nm] at this
theorem root3 : rootL 3 2 = 1477 := by
  unfold rootL
  have := rootGo_at (a := 3) (k := 2) 1477 10007 0 (by omega) (fun i hi => by rw [powN_two, Nat.zero_add, Int.one_mul, nm_nm]; exact sq_ne hi) (by rw [powN_two]; kernel_rfl)
  exact this
def gaussG (f : Int → Int → Int) (r : Int) : TabD := ([[f 1 4, nm (f 1 4 - nm (r * f 1 6))], [nm (f 1 4 + nm (r * f 1 6)), f 1 4]], rowG f 2 [1, 1])
def namedG (f : Int → Int → Int) (r : Int) (s : List UInt8) : TabD := if s = [101, 117, 108, 101, 114] then (sqG f 1 1 [0], rowG f 1 [1]) else if s = [103, 97, 117, 115, 115] then gaussG f r else if s = [104, 101, 117, 110] then (sqG f 2 1 [0, 0, 1, 0], rowG f 2 [1, 1]) else if s = [105, 109, 112, 108, 105, 99, 105, 116] then (sqG f 1 1 [1], rowG f 1 [1]) else if s = [107, 117, 116, 116, 97] then (sqG f 3 2 [0, 0, 0, 1, 0, 0, -2, 4, 0], rowG f 6 [1, 4, 1]) else if s = [108, 111, 98, 97, 116, 116, 111] then (sqG f 3 24 [0, 0, 0, 5, 8, -1, 4, 16, 4], rowG f 6 [1, 4, 1]) else if s = [109, 105, 100, 100, 108, 101] then (sqG f 1 2 [1], rowG f 1 [1]) else if s = [109, 105, 100, 112, 111, 105, 110, 116] then (sqG f 2 2 [0, 0, 1, 0], rowG f 1 [0, 1]) else if s = [114, 97, 100, 97, 117] then (sqG f 2 12 [5, -1, 9, 3], rowG f 4 [3, 1]) else if s = [114, 97, 108, 115, 116, 111, 110] then (sqG f 2 3 [0, 0, 2, 0], rowG f 4 [1, 3]) else if s = [114, 117, 110, 103, 101] then (sqG f 4 2 [0, 0, 0, 0, 1, 0, 0, 0, 0, 1, 0, 0, 0, 0, 2, 0], rowG f 6 [1, 2, 2, 1]) else (sqG f 2 2 [0, 0, 1, 1], rowG f 2 [1, 1])
theorem named_G (s : List UInt8) : namedT ⟨s.toArray⟩ = namedG frcF 1477 s := by
  unfold namedT namedG gaussT gaussG
  rw [root3, rowG_eq, sqG_eq, frc_F]
  rw [show (⟨#[101, 117, 108, 101, 114]⟩ : ByteArray) = ⟨([101, 117, 108, 101, 114] : List UInt8).toArray⟩ from rfl, eqS_St]
  rw [show (⟨#[103, 97, 117, 115, 115]⟩ : ByteArray) = ⟨([103, 97, 117, 115, 115] : List UInt8).toArray⟩ from rfl, eqS_St]
  rw [show (⟨#[104, 101, 117, 110]⟩ : ByteArray) = ⟨([104, 101, 117, 110] : List UInt8).toArray⟩ from rfl, eqS_St]
  rw [show (⟨#[105, 109, 112, 108, 105, 99, 105, 116]⟩ : ByteArray) = ⟨([105, 109, 112, 108, 105, 99, 105, 116] : List UInt8).toArray⟩ from rfl, eqS_St]
  rw [show (⟨#[107, 117, 116, 116, 97]⟩ : ByteArray) = ⟨([107, 117, 116, 116, 97] : List UInt8).toArray⟩ from rfl, eqS_St]
  rw [show (⟨#[108, 111, 98, 97, 116, 116, 111]⟩ : ByteArray) = ⟨([108, 111, 98, 97, 116, 116, 111] : List UInt8).toArray⟩ from rfl, eqS_St]
  rw [show (⟨#[109, 105, 100, 100, 108, 101]⟩ : ByteArray) = ⟨([109, 105, 100, 100, 108, 101] : List UInt8).toArray⟩ from rfl, eqS_St]
  rw [show (⟨#[109, 105, 100, 112, 111, 105, 110, 116]⟩ : ByteArray) = ⟨([109, 105, 100, 112, 111, 105, 110, 116] : List UInt8).toArray⟩ from rfl, eqS_St]
  rw [show (⟨#[114, 97, 100, 97, 117]⟩ : ByteArray) = ⟨([114, 97, 100, 97, 117] : List UInt8).toArray⟩ from rfl, eqS_St]
  rw [show (⟨#[114, 97, 108, 115, 116, 111, 110]⟩ : ByteArray) = ⟨([114, 97, 108, 115, 116, 111, 110] : List UInt8).toArray⟩ from rfl, eqS_St]
  rw [show (⟨#[114, 117, 110, 103, 101]⟩ : ByteArray) = ⟨([114, 117, 110, 103, 101] : List UInt8).toArray⟩ from rfl, eqS_St]
  simp only [decide_eq_true_eq]
theorem names_tabs : nm12.map (namedG frcF 1477) = tab12 := by kernel_rfl
theorem name_tab {i : Nat} (h : i < 12) : namedT ⟨(nm12.getD i []).toArray⟩ = tab12.getD i ([], []) := by
  have h1 : (nm12.map (namedG frcF 1477))[i]? = tab12[i]? := by rw [names_tabs]
  rw [List.getElem?_map, List.getElem?_eq_getElem (show i < nm12.length from h)] at h1
  rw [named_G, List.getD_eq_getElem?_getD, List.getD_eq_getElem?_getD, ← h1, List.getElem?_eq_getElem (show i < nm12.length from h)]
  rfl
/-- The tableau with a name, and a code. -/
def namedTab (s : List UInt8) : TabD × Int := if s ∈ nm12 then (namedT ⟨s.toArray⟩, 0) else (([], []), 4)
theorem namedTab_at {i : Nat} (h : i < 12) : namedTab (nm12.getD i []) = (tab12.getD i ([], []), 0) := by
  unfold namedTab
  rw [if_pos, name_tab h]
  rw [List.getD_eq_getElem?_getD, List.getElem?_eq_getElem (show i < nm12.length from h)]
  exact List.getElem_mem _
theorem namedTab_cases (s : List UInt8) : (namedTab s = (([], []), 4) ∧ s ∉ nm12) ∨ ∃ i, i < 12 ∧ s = nm12.getD i [] ∧ namedTab s = (tab12.getD i ([], []), 0) := by
  rcases textN_cases s with ⟨_, h⟩ | ⟨i, hi, rfl, _⟩
  · exact Or.inl ⟨by unfold namedTab; rw [if_neg h], h⟩
  · exact Or.inr ⟨i, hi, rfl, namedTab_at hi⟩
theorem tab12_tab : (tab12.all isTab) = true := by kernel_rfl
theorem tab12_get {i : Nat} (h : i < 12) : isTab (tab12.getD i ([], [])) = true := by
  rw [List.getD_eq_getElem?_getD, List.getElem?_eq_getElem (show i < tab12.length from h)]
  exact List.all_eq_true.1 tab12_tab _ (List.getElem_mem _)
theorem base_is {i : Nat} (h : i < 12) (hg : i ≠ 1) : base12.getD i ([], []) = tab12.getD i ([], []) := by
  have key : (List.range 12).all (fun i => i == 1 || decide (base12.getD i ([], []) = tab12.getD i ([], []))) = true := by kernel_rfl
  have := List.all_eq_true.1 key i (List.mem_range.2 h)
  rcases Bool.or_eq_true_iff.1 this with h1 | h1
  · exact absurd (by simpa using h1) hg
  · exact of_decide_eq_true h1
theorem name_gauss {i : Nat} (h : i < 12) : nm12.getD i [] = [103, 97, 117, 115, 115] ↔ i = 1 := by
  have key : (List.range 12).all (fun i => decide (nm12.getD i [] = [103, 97, 117, 115, 115] ↔ i = 1)) = true := by kernel_rfl
  exact of_decide_eq_true (List.all_eq_true.1 key i (List.mem_range.2 h))
end Go.Rk
