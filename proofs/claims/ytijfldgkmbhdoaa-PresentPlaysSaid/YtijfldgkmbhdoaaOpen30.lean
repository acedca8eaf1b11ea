/- The arguments of chapter 30's laws, opened. -/
import Derived.Test.YtijfldgkmbhdoaaRow
import Derived.Test.YtijfldgkmbhdoaaOutB
set_option linter.unusedVariables false
set_option linter.unusedSimpArgs false
namespace Go.Proofs.Ytijfldgkmbhdoaa
open Go.ChangeShapes Go.WideShapes Go.ChangeAt Go.RowKit Go.Joins

theorem cellsOut : Try.prog.cellsOf 30 = 8 := by kernel_rfl
theorem cellsInt : Try.prog.cellsOf 3 = 1 := by kernel_rfl
theorem cellsStr : Try.prog.cellsOf 9 = 1 := by kernel_rfl
theorem laidP : laidOutB Try.prog = true := by kernel_rfl
theorem readOut : Try.prog.readableRec 30 = true ∧ 30 < Try.prog.types.size := ⟨by kernel_rfl, of_decide_eq_true (by kernel_rfl)⟩
theorem readInt : Try.prog.readableRec 3 = true ∧ 3 < Try.prog.types.size := ⟨by kernel_rfl, of_decide_eq_true (by kernel_rfl)⟩

def i64R (a : Int) : Prop := -9223372036854775808 ≤ a ∧ a < 9223372036854775808
theorem open_out {H : Type} {enc : TypeId × Value → H} {w : World} {r : Reach} {b0 base : Nat} {sp : Nat → Bool} {held : Bool} {v : Value} {d : DataW H} {p : List MemPlace}
    (hv : Value.okWide Try.prog w r b0 30 v) (h : DataW.Trod enc Try.prog w base sp held 30 v d p) :
    ∃ nm wd ht rf sc tr x y, v = outv nm wd ht rf sc tr x y ∧ nm.size ≤ 9223372036854775807 := by
  obtain ⟨cs, rfl, hsz⟩ := okWide_struct Try.underlying30 hv
  obtain ⟨l⟩ := cs
  match l, hsz.trans cellsOut with
  | [c0, c1, c2, c3, c4, c5, c6, c7], _ =>
    obtain ⟨fuel, hf⟩ := h
    obtain ⟨xs, n, _, hx, _, hlen, hg⟩ := DataW.trod_struct Try.underlying30 hf
    match xs, hlen with
    | [y0, y1, y2, y3, y4, y5, y6, y7], _ =>
      have g0 : DataW.trod enc Try.prog w base sp held n 9 [c0] = some y0 := by have := hg 0 _ rfl; simpa [Value.cells, cellsStr] using this
      have g1 : DataW.trod enc Try.prog w base sp held n 3 [c1] = some y1 := by have := hg 1 _ rfl; simpa [Value.cells, cellsInt] using this
      have g2 : DataW.trod enc Try.prog w base sp held n 3 [c2] = some y2 := by have := hg 2 _ rfl; simpa [Value.cells, cellsInt] using this
      have g3 : DataW.trod enc Try.prog w base sp held n 3 [c3] = some y3 := by have := hg 3 _ rfl; simpa [Value.cells, cellsInt] using this
      have g4 : DataW.trod enc Try.prog w base sp held n 3 [c4] = some y4 := by have := hg 4 _ rfl; simpa [Value.cells, cellsInt] using this
      have g5 : DataW.trod enc Try.prog w base sp held n 3 [c5] = some y5 := by have := hg 5 _ rfl; simpa [Value.cells, cellsInt] using this
      have g6 : DataW.trod enc Try.prog w base sp held n 3 [c6] = some y6 := by have := hg 6 _ rfl; simpa [Value.cells, cellsInt] using this
      have g7 : DataW.trod enc Try.prog w base sp held n 3 [c7] = some y7 := by have := hg 7 _ rfl; simpa [Value.cells, cellsInt] using this
      obtain ⟨a0, e0, _, w0⟩ := DataW.trod_string Try.underlying9 g0
      obtain ⟨a1, e1, _, w1⟩ := DataW.trod_int Try.underlying3 g1
      obtain ⟨a2, e2, _, w2⟩ := DataW.trod_int Try.underlying3 g2
      obtain ⟨a3, e3, _, w3⟩ := DataW.trod_int Try.underlying3 g3
      obtain ⟨a4, e4, _, w4⟩ := DataW.trod_int Try.underlying3 g4
      obtain ⟨a5, e5, _, w5⟩ := DataW.trod_int Try.underlying3 g5
      obtain ⟨a6, e6, _, w6⟩ := DataW.trod_int Try.underlying3 g6
      obtain ⟨a7, e7, _, w7⟩ := DataW.trod_int Try.underlying3 g7
      simp only [List.cons.injEq, and_true] at e0 e1 e2 e3 e4 e5 e6 e7
      subst e0 e1 e2 e3 e4 e5 e6 e7
      exact ⟨a0, a1, a2, a3, a4, a5, a6, a7, rfl, by simp only [maxLen] at w0; omega⟩
theorem open_i64 {H : Type} {enc : TypeId × Value → H} {w : World} {r : Reach} {b0 base : Nat} {sp : Nat → Bool} {held : Bool} {v : Value} {d : DataW H} {p : List MemPlace}
    (hv : Value.okWide Try.prog w r b0 3 v) (h : DataW.Trod enc Try.prog w base sp held 3 v d p) : ∃ a, v = .int .i64 a ∧ i64R a := by
  obtain ⟨a, rfl, _, _, hw⟩ := Go.ChangeShapes.open_int Try.underlying3 hv h
  have := i64_of hw
  exact ⟨a, rfl, by unfold i64R; omega⟩
end Go.Proofs.Ytijfldgkmbhdoaa
