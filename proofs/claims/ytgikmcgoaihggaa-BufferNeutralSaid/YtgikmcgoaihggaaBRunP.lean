/- What runs computes. -/
import Derived.Test.YtgikmcgoaihggaaBuf
set_option linter.unusedVariables false
set_option linter.unusedSimpArgs false
namespace Go.Proofs.Ytgikmcgoaihggaa
open Go.RowKit

/-- A rectangle. -/
structure Rc where
  x0 : Int
  y0 : Int
  x1 : Int
  y1 : Int
deriving DecidableEq
def rcCell (r : Rc) : List Value := [.int .i64 r.x0, .int .i64 r.y0, .int .i64 r.x1, .int .i64 r.y1]
def rcCells (l : List Rc) : List Value := l.flatMap rcCell
theorem rcCells_append (a b : List Rc) : rcCells (a ++ b) = rcCells a ++ rcCells b := by simp [rcCells]
theorem rcCells_length (a : List Rc) : (rcCells a).length = a.length * 4 := by
  unfold rcCells
  induction a with
  | nil => rfl
  | cons x l ih => simp only [List.flatMap_cons, List.length_append, ih, List.length_cons, rcCell, List.length_nil]; omega
theorem rcCells_get (a : List Rc) (i : Nat) (h : i < a.length) : (rcCells a)[i * 4]? = some (.int .i64 a[i].x0) ∧ (rcCells a)[i * 4 + 1]? = some (.int .i64 a[i].y0) ∧ (rcCells a)[i * 4 + 2]? = some (.int .i64 a[i].x1) ∧ (rcCells a)[i * 4 + 3]? = some (.int .i64 a[i].y1) := by
  unfold rcCells
  induction a generalizing i with
  | nil => simp at h
  | cons x l ih =>
    cases i with
    | zero => simp [rcCell]
    | succ i =>
      have := ih i (by simpa using h)
      have e0 : (i + 1) * 4 = i * 4 + 1 + 1 + 1 + 1 := by omega
      simp only [List.flatMap_cons, rcCell, e0, List.cons_append, List.getElem?_cons_succ, List.nil_append, List.getElem_cons_succ]
      exact this
/-- The last rectangle's right edge moved. -/
def setLast : List Rc → Int → List Rc
  | [], _ => []
  | [r], v => [⟨r.x0, r.y0, v, r.y1⟩]
  | r :: s :: l, v => r :: setLast (s :: l) v
theorem setLast_append (l : List Rc) (r : Rc) (v : Int) : setLast (l ++ [r]) v = l ++ [⟨r.x0, r.y0, v, r.y1⟩] := by
  induction l with
  | nil => rfl
  | cons x l ih =>
    cases l with
    | nil => rfl
    | cons y l => simp only [List.cons_append, setLast] at ih ⊢; rw [ih]
theorem last_form {l : List Rc} (h : l ≠ []) : ∃ k r, l = k ++ [r] := ⟨l.dropLast, l.getLast h, (List.dropLast_concat_getLast h).symm⟩
theorem setLast_length (l : List Rc) (v : Int) : (setLast l v).length = l.length := by
  by_cases h : l = []
  · subst h; rfl
  · obtain ⟨k, r, rfl⟩ := last_form h
    rw [setLast_append]; simp
theorem rcCells_setLast {l : List Rc} (h : l ≠ []) (v : Int) : rcCells (setLast l v) = (rcCells l).set ((l.length - 1) * 4 + 2) (.int .i64 v) := by
  obtain ⟨k, r, rfl⟩ := last_form h
  rw [setLast_append, rcCells_append, rcCells_append]
  have e : (k ++ [r]).length - 1 = k.length := by simp
  rw [e, ← rcCells_length]
  rw [List.set_append_right _ _ (by omega)]
  simp [rcCells, rcCell]
def rstep (l : List Rc) (x y : Int) (m o : Bool) : List Rc := if m = true then (if o = true then setLast l (x + 1) else l ++ [⟨x, y, x + 1, y + 1⟩]) else l
def opn (ms : Nat → Bool) (W j i : Nat) : Bool := decide (0 < i) && ms (j * W + i - 1)
def rowR (ms : Nat → Bool) (W j : Nat) (l : List Rc) : Nat → List Rc
  | 0 => l
  | i + 1 => rstep (rowR ms W j l i) i j (ms (j * W + i)) (opn ms W j i)
def allR (ms : Nat → Bool) (W : Nat) : Nat → List Rc
  | 0 => []
  | j + 1 => rowR ms W j (allR ms W j) W
theorem opn_succ (ms : Nat → Bool) (W j i : Nat) : opn ms W j (i + 1) = ms (j * W + i) := by unfold opn; simp
theorem rstep_length (l : List Rc) (x y : Int) (m o : Bool) : (rstep l x y m o).length ≤ l.length + 1 := by
  unfold rstep
  split
  · split
    · rw [setLast_length]; omega
    · simp
  · omega
theorem rowR_length (ms : Nat → Bool) (W j : Nat) (l : List Rc) : ∀ i, (rowR ms W j l i).length ≤ l.length + i
  | 0 => Nat.le_refl _
  | i + 1 => by
    have := rowR_length ms W j l i
    have := rstep_length (rowR ms W j l i) i j (ms (j * W + i)) (opn ms W j i)
    simp only [rowR]
    omega
theorem allR_length (ms : Nat → Bool) (W : Nat) : ∀ j, (allR ms W j).length ≤ j * W
  | 0 => by simp [allR]
  | j + 1 => by
    have h1 := allR_length ms W j
    have h2 := rowR_length ms W j (allR ms W j) W
    simp only [allR]
    rw [Nat.add_mul]
    omega
theorem rowR_ne {ms : Nat → Bool} {W j : Nat} {l : List Rc} : ∀ {i}, opn ms W j i = true → rowR ms W j l i ≠ []
  | 0, h => by simp [opn] at h
  | i + 1, h => by
    rw [opn_succ] at h
    simp only [rowR, rstep]
    rw [if_pos h]
    split
    · rename_i ho
      have := rowR_ne (l := l) ho
      intro he
      have := congrArg List.length he
      rw [setLast_length] at this
      simp at this
      contradiction
    · simp
theorem row_bound {W H j i : Nat} {n : Nat} (hW : W ≤ 256) (hH : H ≤ 256) (hj : j < H) (hi : i ≤ W) (h : n ≤ j * W + i) : n ≤ 65536 := by
  have h := Nat.mul_le_mul (show j + 1 ≤ 256 by omega) hW
  rw [Nat.add_mul, Nat.one_mul] at h
  omega
theorem idx_lt {W H j i : Nat} (hj : j < H) (hi : i < W) : j * W + i < H * W := by
  have h := Nat.mul_le_mul_right W (show j + 1 ≤ H by omega)
  rw [Nat.add_mul, Nat.one_mul] at h
  omega
abbrev OwnR (w : World) (base : Nat) (v : Value) (l : List Rc) : Prop := w.ownsRow base 47 4 v l.length (rcCells l)
theorem el_rect : El Try.prog 33 47 4 32 := El.of (z := .agg #[.int .i64 0, .int .i64 0, .int .i64 0, .int .i64 0]) Try.underlying33 (by kernel_rfl) rfl (by decide)
/-- The last rectangle's right edge, stored. -/
theorem store_last {w : World} {base g c : Nat} {l : List Rc} (h : OwnR w base (.slice (some ⟨g, 0, none⟩) l.length c) l) (hl : l ≠ []) (v : Int) :
    OwnR (w.setCell ⟨g, (l.length - 1) * 4 + 2, none⟩ (.int .i64 v)) base (.slice (some ⟨g, 0, none⟩) l.length c) (setLast l v) ∧ FrT base [47] w (w.setCell ⟨g, (l.length - 1) * 4 + 2, none⟩ (.int .i64 v)) := by
  obtain ⟨h1, h2⟩ := h.stored ((l.length - 1) * 4 + 2) (.int .i64 v)
  refine ⟨?_, (FrT.refl _ _ _).grown h h2 (.inl ⟨by simp, Nat.le_refl _⟩)⟩
  show World.ownsRow _ _ _ _ _ (setLast l v).length (rcCells (setLast l v))
  rw [setLast_length, rcCells_setLast hl]
  exact h1
theorem own_some {w : World} {base : Nat} {v : Value} {l : List Rc} (h : OwnR w base v l) (hl : l ≠ []) : ∃ g c, v = .slice (some ⟨g, 0, none⟩) l.length c ∧ l.length ≤ c ∧ c ≤ 9223372036854775807 ∧ base ≤ g ∧ g < w.heap.size ∧
    (∀ k u, (rcCells l)[k]? = some u → w.cell? ⟨g, k, none⟩ = some u) ∧ ∀ k, w.frozen? ⟨g, k, none⟩ = false := by
  rcases h.2 with ⟨_, h0⟩ | ⟨g, cap, cur, rfl, hbg, hg, h1, h2, _⟩
  · exact absurd (List.eq_nil_of_length_eq_zero h0) hl
  · refine ⟨g, cap, rfl, h1, by simp only [maxLen] at h2; omega, hbg, (Array.getElem?_eq_some_iff.1 hg).1, fun k u hk => ?_, fun k => h.frozenAt k⟩
    have hlt := (List.getElem?_eq_some_iff.1 hk).1
    rw [rcCells_length] at hlt
    rw [h.cellAt k hlt, hk]
end Go.Proofs.Ytgikmcgoaihggaa
