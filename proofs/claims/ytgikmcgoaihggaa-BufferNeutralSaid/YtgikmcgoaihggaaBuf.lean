/- Buffers: what stands in memory for one. -/
import Derived.Test.YtgikmcgoaihggaaMem
import Derived.Test.YtgikmcgoaihggaaPix
import Derived.Lib.Hide
set_option linter.unusedVariables false
set_option linter.unusedSimpArgs false
namespace Go.Proofs.Ytgikmcgoaihggaa
open Go.RowKit

/-- A pixel. -/
structure Px where
  r : Int
  g : Int
  b : Int
  a : Int
deriving DecidableEq
def Px.ok (p : Px) : Prop := (0 ≤ p.r ∧ p.r ≤ 255) ∧ (0 ≤ p.g ∧ p.g ≤ 255) ∧ (0 ≤ p.b ∧ p.b ≤ 255) ∧ (0 ≤ p.a ∧ p.a ≤ 255)
def PxsOk (l : List Px) : Prop := ∀ p ∈ l, p.ok
def pxCell (p : Px) : List Value := [.int .u8 p.r, .int .u8 p.g, .int .u8 p.b, .int .u8 p.a]
def pxCells (l : List Px) : List Value := l.flatMap pxCell
theorem pxCells_append (a b : List Px) : pxCells (a ++ b) = pxCells a ++ pxCells b := by simp [pxCells]
theorem pxCells_length (a : List Px) : (pxCells a).length = a.length * 4 := by
  unfold pxCells
  induction a with
  | nil => rfl
  | cons x l ih => simp only [List.flatMap_cons, List.length_append, ih, List.length_cons, pxCell, List.length_nil]; omega
theorem pxCells_one (a : List Px) : ∀ u ∈ pxCells a, u.oneCell' = true := by
  intro u hu
  unfold pxCells at hu
  obtain ⟨x, _, hu⟩ := List.mem_flatMap.1 hu
  simp only [pxCell, List.mem_cons, List.not_mem_nil, or_false] at hu
  rcases hu with rfl | rfl | rfl | rfl <;> rfl
theorem pxCells_get (a : List Px) (i : Nat) (h : i < a.length) : (pxCells a)[i * 4]? = some (.int .u8 a[i].r) ∧ (pxCells a)[i * 4 + 1]? = some (.int .u8 a[i].g) ∧ (pxCells a)[i * 4 + 2]? = some (.int .u8 a[i].b) ∧ (pxCells a)[i * 4 + 3]? = some (.int .u8 a[i].a) := by
  unfold pxCells
  induction a generalizing i with
  | nil => simp at h
  | cons x l ih =>
    cases i with
    | zero => simp [pxCell]
    | succ i =>
      have := ih i (by simpa using h)
      have e0 : (i + 1) * 4 = i * 4 + 1 + 1 + 1 + 1 := by omega
      simp only [List.flatMap_cons, pxCell, e0, List.cons_append, List.getElem?_cons_succ, List.nil_append, List.getElem_cons_succ]
      exact this
/-- The pixels of a slice may be read. -/
def Rdp (w : World) (A : Option Addr) (ps : List Px) : Prop :=
  ∀ j (h : j < ps.length), ∃ b off, A = some ⟨b, off, none⟩ ∧ b < w.heap.size ∧ w.cell? ⟨b, off + j * 4, none⟩ = some (.int .u8 ps[j].r) ∧ w.cell? ⟨b, off + j * 4 + 1, none⟩ = some (.int .u8 ps[j].g) ∧
    w.cell? ⟨b, off + j * 4 + 2, none⟩ = some (.int .u8 ps[j].b) ∧ w.cell? ⟨b, off + j * 4 + 3, none⟩ = some (.int .u8 ps[j].a)
theorem Rdp.nil (w : World) (A : Option Addr) : Rdp w A [] := fun j h => absurd h (by simp)
theorem Rdp.below {w w' : World} {A : Option Addr} {ps : List Px} (hb : Below w.heap.size w w') (h : Rdp w A ps) : Rdp w' A ps := fun j hj => by
  obtain ⟨b, off, e, hl, c0, c1, c2, c3⟩ := h j hj
  exact ⟨b, off, e, Nat.lt_of_lt_of_le hl hb.size, (hb.cell (p := ⟨b, off + j * 4, none⟩) hl).trans c0, (hb.cell (p := ⟨b, off + j * 4 + 1, none⟩) hl).trans c1, (hb.cell (p := ⟨b, off + j * 4 + 2, none⟩) hl).trans c2, (hb.cell (p := ⟨b, off + j * 4 + 3, none⟩) hl).trans c3⟩
/-- Pixels in a row of the call's own. -/
abbrev OwnP (w : World) (base : Nat) (v : Value) (ps : List Px) : Prop := w.ownsRow base 43 4 v ps.length (pxCells ps)
theorem OwnP.form {w : World} {base : Nat} {v : Value} {ps : List Px} (h : OwnP w base v ps) : ∃ A c, v = .slice A ps.length c ∧ ps.length ≤ c ∧ c ≤ 9223372036854775807 ∧ Rdp w A ps := by
  rcases h.2 with ⟨rfl, h0⟩ | ⟨g, cap, cur, rfl, hbg, hg, h1, h2, _⟩
  · have h0' : ps.length = 0 := h0
    exact ⟨none, 0, by rw [h0'], by omega, by omega, fun j hj => by omega⟩
  · refine ⟨_, cap, rfl, h1, by simp only [maxLen] at h2; omega, fun j hj => ⟨g, 0, rfl, (Array.getElem?_eq_some_iff.1 hg).1, ?_⟩⟩
    obtain ⟨e0, e1, e2, e3⟩ := pxCells_get ps j hj
    rw [Nat.zero_add, h.cellAt (j * 4) (by omega), h.cellAt (j * 4 + 1) (by omega), h.cellAt (j * 4 + 2) (by omega), h.cellAt (j * 4 + 3) (by omega)]
    exact ⟨e0, e1, e2, e3⟩
theorem Rdp.src {w : World} {A : Option Addr} {ps : List Px} {c : Nat} (h : Rdp w A ps) (h0 : ps.length = 0 → A = none → c = 0) : Src w 4 (.slice A ps.length c) ps.length (pxCells ps) := by
  refine ⟨pxCells_length ps, pxCells_one ps, ?_⟩
  cases A with
  | none =>
    have hz : ps = [] := by
      cases ps with
      | nil => rfl
      | cons z l => obtain ⟨b, off, e, _⟩ := h 0 (by simp); cases e
    subst hz
    exact .inl ⟨by rw [h0 rfl rfl]; rfl, rfl⟩
  | some ad =>
    refine .inr ⟨ad, c, rfl, fun j u hj => ?_⟩
    have hlt : j < ps.length * 4 := by rw [← pxCells_length]; exact (List.getElem?_eq_some_iff.1 hj).1
    obtain ⟨b, off, e, _, c0, c1, c2, c3⟩ := h (j / 4) (by omega)
    obtain rfl := Option.some.inj e
    obtain ⟨e0, e1, e2, e3⟩ := pxCells_get ps (j / 4) (by omega)
    rw [Addr.add_lit]
    have hm : j % 4 = 0 ∨ j % 4 = 1 ∨ j % 4 = 2 ∨ j % 4 = 3 := by omega
    rcases hm with hm | hm | hm | hm
    · have hj4 : j = j / 4 * 4 := by omega
      rw [hj4] at hj ⊢; rw [e0] at hj; rw [c0]; exact hj
    · have hj4 : j = j / 4 * 4 + 1 := by omega
      rw [hj4] at hj ⊢; rw [e1] at hj; rw [← Nat.add_assoc, c1]; exact hj
    · have hj4 : j = j / 4 * 4 + 2 := by omega
      rw [hj4] at hj ⊢; rw [e2] at hj; rw [← Nat.add_assoc, c2]; exact hj
    · have hj4 : j = j / 4 * 4 + 3 := by omega
      rw [hj4] at hj ⊢; rw [e3] at hj; rw [← Nat.add_assoc, c3]; exact hj
abbrev bufv (w h : Int) (v : Value) : Value := .agg #[.int .i64 w, .int .i64 h, v]
theorem el_px : El Try.prog 25 43 4 4 := El.of (z := px 0 0 0 0) Try.underlying25 (by kernel_rfl) rfl (by decide)
/-- Is a pixel valid? Is a number of columns or rows? Is a buffer? -/
def vldB (p : Px) : Bool := decide (p.r ≤ p.a) && decide (p.g ≤ p.a) && decide (p.b ≤ p.a)
def szB (n : Int) : Bool := decide (1 ≤ n) && decide (n ≤ 256)
def bufB (w h : Int) (ps : List Px) : Bool := szB w && szB h && decide ((ps.length : Int) = w * h) && ps.all vldB
theorem vldB_iff (p : Px) : vldB p = true ↔ p.r ≤ p.a ∧ p.g ≤ p.a ∧ p.b ≤ p.a := by
  unfold vldB; rw [Bool.and_eq_true, Bool.and_eq_true, decide_eq_true_iff, decide_eq_true_iff, decide_eq_true_iff, and_assoc]
theorem szB_iff (n : Int) : szB n = true ↔ 1 ≤ n ∧ n ≤ 256 := by unfold szB; rw [Bool.and_eq_true, decide_eq_true_iff, decide_eq_true_iff]
theorem bufB_iff (w h : Int) (ps : List Px) : bufB w h ps = true ↔ (1 ≤ w ∧ w ≤ 256) ∧ (1 ≤ h ∧ h ≤ 256) ∧ (ps.length : Int) = w * h ∧ ps.all vldB = true := by
  unfold bufB; rw [Bool.and_eq_true, Bool.and_eq_true, Bool.and_eq_true, szB_iff, szB_iff, decide_eq_true_iff, and_assoc, and_assoc]
theorem size_mul {w h : Int} (hw : 1 ≤ w ∧ w ≤ 256) (hh : 1 ≤ h ∧ h ≤ 256) : 1 ≤ w * h ∧ w * h ≤ 65536 := by
  obtain ⟨a, rfl⟩ := Int.eq_ofNat_of_zero_le (show 0 ≤ w by omega)
  obtain ⟨b, rfl⟩ := Int.eq_ofNat_of_zero_le (show 0 ≤ h by omega)
  have h1 := Nat.mul_le_mul (show a ≤ 256 by omega) (show b ≤ 256 by omega)
  have h2 := Nat.mul_le_mul (show 1 ≤ a by omega) (show 1 ≤ b by omega)
  have e : ((a * b : Nat) : Int) = (a : Int) * (b : Int) := by simp
  omega
end Go.Proofs.Ytgikmcgoaihggaa
