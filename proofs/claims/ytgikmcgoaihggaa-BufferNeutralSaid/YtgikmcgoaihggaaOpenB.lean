/- The arguments of chapter 9's laws, opened. -/
import Derived.Test.YtgikmcgoaihggaaRowsS
import Derived.Test.YtgikmcgoaihggaaBuf
import Derived.Laws.IdiomArrays
set_option linter.unusedVariables false
set_option linter.unusedSimpArgs false
namespace Go.Proofs.Ytgikmcgoaihggaa
open Go.ChangeShapes Go.WideShapes Go.ChangeAt Go.RowKit Go.Joins Go.Deep

theorem laidP : laidOutB Try.prog = true := by kernel_rfl
theorem readInt : Try.prog.readableRec 3 = true ∧ 3 < Try.prog.types.size := ⟨by kernel_rfl, of_decide_eq_true (by kernel_rfl)⟩
theorem readBuf : Try.prog.readableRec 27 = true ∧ 27 < Try.prog.types.size := ⟨by kernel_rfl, of_decide_eq_true (by kernel_rfl)⟩
theorem readU8s : Try.prog.readableRec 23 = true ∧ 23 < Try.prog.types.size := ⟨by kernel_rfl, of_decide_eq_true (by kernel_rfl)⟩
theorem readA4 : Try.prog.readableRec 22 = true ∧ 22 < Try.prog.types.size := ⟨by kernel_rfl, of_decide_eq_true (by kernel_rfl)⟩
theorem readPoint : Try.prog.readableRec 41 = true ∧ 41 < Try.prog.types.size := ⟨by kernel_rfl, of_decide_eq_true (by kernel_rfl)⟩
theorem readRect : Try.prog.readableRec 47 = true ∧ 47 < Try.prog.types.size := ⟨by kernel_rfl, of_decide_eq_true (by kernel_rfl)⟩
theorem readPx : Try.prog.readableRec 43 = true ∧ 43 < Try.prog.types.size := ⟨by kernel_rfl, of_decide_eq_true (by kernel_rfl)⟩
theorem cellsInt : Try.prog.cellsOf 3 = 1 := by kernel_rfl
theorem cellsU8 : Try.prog.cellsOf 5 = 1 := by kernel_rfl
theorem cellsPxs : Try.prog.cellsOf 25 = 1 := by kernel_rfl
theorem cellsBuf : Try.prog.cellsOf 27 = 3 := by kernel_rfl
theorem cellsRect : Try.prog.cellsOf 47 = 4 := by kernel_rfl
theorem cellsPx : Try.prog.cellsOf 43 = 4 := by kernel_rfl
theorem cellsPoint : Try.prog.cellsOf 41 = 2 := by kernel_rfl
theorem cellsA4 : Try.prog.cellsOf 22 = 4 := by kernel_rfl
def i64R (a : Int) : Prop := -9223372036854775808 ≤ a ∧ a < 9223372036854775808
theorem i64_rng {z : Int} (h : (Lit.int .i64 z).wf = true) : i64R z := by have := i64_of h; unfold i64R; omega
section
variable {H : Type} {enc : TypeId × Value → H} {w : World} {r : Reach} {b0 base : Nat} {sp : Nat → Bool} {held : Bool} {v : Value} {d : DataW H} {p : List MemPlace}
theorem open_a4 (hv : Value.okWide Try.prog w r b0 22 v) (h : DataW.Trod enc Try.prog w base sp held 22 v d p) :
    ∃ a b c e, v = .agg #[.int .i64 a, .int .i64 b, .int .i64 c, .int .i64 e] ∧ i64R a ∧ i64R b ∧ i64R c ∧ i64R e := by
  simp only [Value.okWide, Try.underlying22] at hv
  obtain ⟨cs, rfl, hsz, _⟩ := hv
  obtain ⟨l⟩ := cs
  match l, hsz.trans cellsA4 with
  | [c0, c1, c2, c3], _ =>
    obtain ⟨fuel, hf⟩ := h
    have hf' : DataW.trod enc Try.prog w base sp held fuel 22 [c0, c1, c2, c3] = some (d, p) := hf
    obtain ⟨y0, y1, y2, y3, n, _, g0, g1, g2, g3⟩ := trod_array4 Try.underlying22 cellsInt hf'
    obtain ⟨a0, e0, _, w0⟩ := DataW.trod_int Try.underlying3 g0
    obtain ⟨a1, e1, _, w1⟩ := DataW.trod_int Try.underlying3 g1
    obtain ⟨a2, e2, _, w2⟩ := DataW.trod_int Try.underlying3 g2
    obtain ⟨a3, e3, _, w3⟩ := DataW.trod_int Try.underlying3 g3
    simp only [List.cons.injEq, and_true] at e0 e1 e2 e3
    subst e0 e1 e2 e3
    exact ⟨a0, a1, a2, a3, rfl, i64_rng w0, i64_rng w1, i64_rng w2, i64_rng w3⟩
theorem open_pxs {fuel : Nat} {cs : List Value} {x : DataW H × List MemPlace} (h : DataW.trod enc Try.prog w base sp held fuel 25 cs = some x) :
    ∃ A ps c, cs = [.slice A ps.length c] ∧ ps.length ≤ c ∧ c ≤ 9223372036854775807 ∧ Rdp w A ps ∧ PxsOk ps ∧ (ps.length = 0 → A = none → c = 0) := by
  rcases open_rows Try.underlying25 Try.underlying43 (by kernel_rfl) (by kernel_rfl) h with e | ⟨a, len, cap, e, hl, hm, hi⟩
  · exact ⟨none, [], 0, e, by simp, by simp, Rdp.nil _ _, (fun p hp => by cases hp), fun _ _ => rfl⟩
  · have hx : ∀ i, i < len → ∃ x : Px, w.cell? (a.add (i * 4)) = some (.int .u8 x.r) ∧ w.cell? (a.add (i * 4 + 1)) = some (.int .u8 x.g) ∧ w.cell? (a.add (i * 4 + 2)) = some (.int .u8 x.b) ∧ w.cell? (a.add (i * 4 + 3)) = some (.int .u8 x.a) ∧ x.ok := by
      intro i hil
      obtain ⟨n0, v0, y0, c0, t0⟩ := hi i hil 0 _ rfl
      obtain ⟨n1, v1, y1, c1, t1⟩ := hi i hil 1 _ rfl
      obtain ⟨n2, v2, y2, c2, t2⟩ := hi i hil 2 _ rfl
      obtain ⟨n3, v3, y3, c3, t3⟩ := hi i hil 3 _ rfl
      obtain ⟨a0, e0, _, w0⟩ := DataW.trod_int Try.underlying5 t0
      obtain ⟨a1, e1, _, w1⟩ := DataW.trod_int Try.underlying5 t1
      obtain ⟨a2, e2, _, w2⟩ := DataW.trod_int Try.underlying5 t2
      obtain ⟨a3, e3, _, w3⟩ := DataW.trod_int Try.underlying5 t3
      simp only [List.cons.injEq, and_true] at e0 e1 e2 e3
      subst e0 e1 e2 e3
      exact ⟨⟨a0, a1, a2, a3⟩, c0, c1, c2, c3, u8_of w0, u8_of w1, u8_of w2, u8_of w3⟩
    obtain ⟨l, hl1, hl2⟩ := list_of _ hx
    subst hl1
    refine ⟨some a, l, cap, e, hl, by simp only [maxLen] at hm; omega, fun j hj => ?_, fun x hx => ?_, fun _ hn => by cases hn⟩
    · have h0 := (hl2 0 (by omega)).1
      rw [Nat.zero_mul] at h0
      obtain ⟨b, off, rfl⟩ := spot_none h0
      obtain ⟨c0, c1, c2, c3, ho⟩ := hl2 j hj
      rw [Addr.add_lit] at c0 c1 c2 c3
      exact ⟨b, off, rfl, World.block_lt_of_cell? w _ c0, c0, c1, c2, c3⟩
    · obtain ⟨q, hq, rfl⟩ := List.getElem_of_mem hx
      exact (hl2 q hq).2.2.2.2
theorem open_buf (hv : Value.okWide Try.prog w r b0 27 v) (h : DataW.Trod enc Try.prog w base sp held 27 v d p) :
    ∃ bw bh A ps c, v = bufv bw bh (.slice A ps.length c) ∧ i64R bw ∧ i64R bh ∧ ps.length ≤ c ∧ c ≤ 9223372036854775807 ∧ Rdp w A ps ∧ PxsOk ps ∧ (ps.length = 0 → A = none → c = 0) := by
  obtain ⟨cs, rfl, hsz⟩ := okWide_struct Try.underlying27 hv
  obtain ⟨l⟩ := cs
  match l, hsz.trans cellsBuf with
  | [c0, c1, c2], _ =>
    obtain ⟨fuel, hf⟩ := h
    obtain ⟨xs, n, _, hx, _, hlen, hg⟩ := DataW.trod_struct Try.underlying27 hf
    match xs, hlen with
    | [y0, y1, y2], _ =>
      have g0 : DataW.trod enc Try.prog w base sp held n 3 [c0] = some y0 := by have := hg 0 _ rfl; simpa [Value.cells, cellsInt] using this
      have g1 : DataW.trod enc Try.prog w base sp held n 3 [c1] = some y1 := by have := hg 1 _ rfl; simpa [Value.cells, cellsInt] using this
      have g2 : DataW.trod enc Try.prog w base sp held n 25 [c2] = some y2 := by have := hg 2 _ rfl; simpa [Value.cells, cellsPxs] using this
      obtain ⟨a0, e0, _, w0⟩ := DataW.trod_int Try.underlying3 g0
      obtain ⟨a1, e1, _, w1⟩ := DataW.trod_int Try.underlying3 g1
      obtain ⟨A, ps, c, e2, h1, h2, h3, h4, h5⟩ := open_pxs g2
      simp only [List.cons.injEq, and_true] at e0 e1 e2
      subst e0 e1 e2
      exact ⟨a0, a1, A, ps, c, rfl, i64_rng w0, i64_rng w1, h1, h2, h3, h4, h5⟩
theorem open_point (hv : Value.okWide Try.prog w r b0 41 v) (h : DataW.Trod enc Try.prog w base sp held 41 v d p) :
    ∃ x y, v = .agg #[.int .i64 x, .int .i64 y] ∧ i64R x ∧ i64R y := by
  obtain ⟨cs, rfl, hsz⟩ := okWide_struct Try.underlying41 hv
  obtain ⟨l⟩ := cs
  match l, hsz.trans cellsPoint with
  | [c0, c1], _ =>
    obtain ⟨fuel, hf⟩ := h
    obtain ⟨xs, n, _, hx, _, hlen, hg⟩ := DataW.trod_struct Try.underlying41 hf
    match xs, hlen with
    | [y0, y1], _ =>
      have g0 : DataW.trod enc Try.prog w base sp held n 3 [c0] = some y0 := by have := hg 0 _ rfl; simpa [Value.cells, cellsInt] using this
      have g1 : DataW.trod enc Try.prog w base sp held n 3 [c1] = some y1 := by have := hg 1 _ rfl; simpa [Value.cells, cellsInt] using this
      obtain ⟨a0, e0, _, w0⟩ := DataW.trod_int Try.underlying3 g0
      obtain ⟨a1, e1, _, w1⟩ := DataW.trod_int Try.underlying3 g1
      simp only [List.cons.injEq, and_true] at e0 e1
      subst e0 e1
      exact ⟨a0, a1, rfl, i64_rng w0, i64_rng w1⟩
theorem open_rect (hv : Value.okWide Try.prog w r b0 47 v) (h : DataW.Trod enc Try.prog w base sp held 47 v d p) :
    ∃ x y z u, v = .agg #[.int .i64 x, .int .i64 y, .int .i64 z, .int .i64 u] ∧ i64R x ∧ i64R y ∧ i64R z ∧ i64R u := by
  obtain ⟨cs, rfl, hsz⟩ := okWide_struct Try.underlying47 hv
  obtain ⟨l⟩ := cs
  match l, hsz.trans cellsRect with
  | [c0, c1, c2, c3], _ =>
    obtain ⟨fuel, hf⟩ := h
    obtain ⟨xs, n, _, hx, _, hlen, hg⟩ := DataW.trod_struct Try.underlying47 hf
    match xs, hlen with
    | [y0, y1, y2, y3], _ =>
      have g0 : DataW.trod enc Try.prog w base sp held n 3 [c0] = some y0 := by have := hg 0 _ rfl; simpa [Value.cells, cellsInt] using this
      have g1 : DataW.trod enc Try.prog w base sp held n 3 [c1] = some y1 := by have := hg 1 _ rfl; simpa [Value.cells, cellsInt] using this
      have g2 : DataW.trod enc Try.prog w base sp held n 3 [c2] = some y2 := by have := hg 2 _ rfl; simpa [Value.cells, cellsInt] using this
      have g3 : DataW.trod enc Try.prog w base sp held n 3 [c3] = some y3 := by have := hg 3 _ rfl; simpa [Value.cells, cellsInt] using this
      obtain ⟨a0, e0, _, w0⟩ := DataW.trod_int Try.underlying3 g0
      obtain ⟨a1, e1, _, w1⟩ := DataW.trod_int Try.underlying3 g1
      obtain ⟨a2, e2, _, w2⟩ := DataW.trod_int Try.underlying3 g2
      obtain ⟨a3, e3, _, w3⟩ := DataW.trod_int Try.underlying3 g3
      simp only [List.cons.injEq, and_true] at e0 e1 e2 e3
      subst e0 e1 e2 e3
      exact ⟨a0, a1, a2, a3, rfl, i64_rng w0, i64_rng w1, i64_rng w2, i64_rng w3⟩
theorem open_pxv (hv : Value.okWide Try.prog w r b0 43 v) (h : DataW.Trod enc Try.prog w base sp held 43 v d p) :
    ∃ x y z u, v = px x y z u ∧ (0 ≤ x ∧ x ≤ 255) ∧ (0 ≤ y ∧ y ≤ 255) ∧ (0 ≤ z ∧ z ≤ 255) ∧ (0 ≤ u ∧ u ≤ 255) := by
  obtain ⟨cs, rfl, hsz⟩ := okWide_struct Try.underlying43 hv
  obtain ⟨l⟩ := cs
  match l, hsz.trans cellsPx with
  | [c0, c1, c2, c3], _ =>
    obtain ⟨fuel, hf⟩ := h
    obtain ⟨xs, n, _, hx, _, hlen, hg⟩ := DataW.trod_struct Try.underlying43 hf
    match xs, hlen with
    | [y0, y1, y2, y3], _ =>
      have g0 : DataW.trod enc Try.prog w base sp held n 5 [c0] = some y0 := by have := hg 0 _ rfl; simpa [Value.cells, cellsU8] using this
      have g1 : DataW.trod enc Try.prog w base sp held n 5 [c1] = some y1 := by have := hg 1 _ rfl; simpa [Value.cells, cellsU8] using this
      have g2 : DataW.trod enc Try.prog w base sp held n 5 [c2] = some y2 := by have := hg 2 _ rfl; simpa [Value.cells, cellsU8] using this
      have g3 : DataW.trod enc Try.prog w base sp held n 5 [c3] = some y3 := by have := hg 3 _ rfl; simpa [Value.cells, cellsU8] using this
      obtain ⟨a0, e0, _, w0⟩ := DataW.trod_int Try.underlying5 g0
      obtain ⟨a1, e1, _, w1⟩ := DataW.trod_int Try.underlying5 g1
      obtain ⟨a2, e2, _, w2⟩ := DataW.trod_int Try.underlying5 g2
      obtain ⟨a3, e3, _, w3⟩ := DataW.trod_int Try.underlying5 g3
      simp only [List.cons.injEq, and_true] at e0 e1 e2 e3
      subst e0 e1 e2 e3
      exact ⟨a0, a1, a2, a3, rfl, u8_of w0, u8_of w1, u8_of w2, u8_of w3⟩
end
end Go.Proofs.Ytgikmcgoaihggaa
