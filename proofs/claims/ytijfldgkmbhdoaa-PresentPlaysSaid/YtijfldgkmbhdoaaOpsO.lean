/- PresentPlays' calls, opened. -/
import Derived.Test.YtijfldgkmbhdoaaRd
import Derived.Deep.Slices
import Derived.Deep.Fields
import Derived.ChangeSame
set_option linter.unusedVariables false
set_option linter.unusedSimpArgs false
namespace Go.Proofs.Ytijfldgkmbhdoaa
open Go.ChangeShapes Go.WideShapes Go.ChangeAt Go.RowKit Go.Joins Go.Deep

section
variable {H : Type} {enc : TypeId × Value → H} {P : Program} {w : World} {base : Nat} {spare : Nat → Bool} {held : Bool}
/-- A slice of structs whose fields are cells: each field's cell and its reading. -/
theorem open_rows {t e : TypeId} {fs : Array Field} {fuel : Nat} {cs : List Value} {x : DataW H × List MemPlace} (ht : P.underlying t = some (.slice e)) (he : P.underlying e = some (.struct fs))
    (hone : oneCellFields P fs = true) (hC : P.cellsOf e = fs.size) (h : DataW.trod enc P w base spare held fuel t cs = some x) :
    (cs = [.slice none 0 0]) ∨
    ∃ (a : Addr) (len cap : Nat), cs = [.slice (some a) len cap] ∧ len ≤ cap ∧ cap ≤ maxLen ∧
      ∀ i, i < len → ∀ (j : Nat) (f : Field), fs[j]? = some f → ∃ (n : Nat) (v : Value) (y : DataW H × List MemPlace), w.cell? (a.add (i * fs.size + j)) = some v ∧ DataW.trod enc P w base spare held n f.type [v] = some y := by
  rcases open_slice ht h with h0 | ⟨a, len, cap, m, n, D, Pl, hcs, hb, hl, hm, hmm, hx, hi⟩
  · exact .inl h0.1
  · refine .inr ⟨a, len, cap, hcs, hl, hm, fun i him => ?_⟩
    obtain ⟨cs', hc, ht'⟩ := hi i (by rw [hmm]; split <;> omega)
    rw [hC] at hc
    obtain ⟨ys, n', hn', hy, hlen, hyl, hf⟩ := DataW.trod_struct he ht'
    obtain ⟨_, hcl, hat⟩ := World.cells?_some hc
    intro j f hj
    obtain ⟨ho, hk⟩ := hone_of hone j f hj
    have hjl : j < fs.size := (Array.getElem?_eq_some_iff.1 hj).1
    have hcell := hat j hjl
    have hv : cs'[j]? = some (cs'[j]'(by omega)) := List.getElem?_eq_getElem (by omega)
    have h1 := hf j f hj
    rw [ho, hk] at h1
    have hone' : (cs'.drop j).take 1 = [cs'[j]'(by omega)] := by
      rw [List.drop_eq_getElem_cons (by omega)]
      rfl
    rw [hone'] at h1
    have hys : ys[j]? = some (ys[j]'(by omega)) := List.getElem?_eq_getElem (by omega)
    refine ⟨_, _, _, ?_, h1.trans hys⟩
    rw [← Go.Deep.add_add, hcell, hv]
theorem spot_none {a : Addr} {v : Value} (h : w.cell? (a.add 0) = some v) : ∃ b off, a = ⟨b, off, none⟩ := by
  obtain ⟨b, off, spot⟩ := a
  have hspot : spot = none := by simpa [Addr.add] using World.cell?_spot h
  subst hspot
  exact ⟨b, off, rfl⟩
theorem list_of {α : Type} {Q : Nat → α → Prop} : ∀ n, (∀ i, i < n → ∃ x, Q i x) → ∃ l : List α, l.length = n ∧ ∀ i (h : i < l.length), Q i l[i]
  | 0, _ => ⟨[], rfl, fun i h => absurd h (by simp)⟩
  | n + 1, h => by
    obtain ⟨l, h1, h2⟩ := list_of n (fun i hi => h i (by omega))
    obtain ⟨x, hx⟩ := h n (by omega)
    refine ⟨l ++ [x], by simp [h1], fun i hi => ?_⟩
    by_cases hin : i < l.length
    · rw [List.getElem_append_left hin]; exact h2 i hin
    · have : i = n := by simp at hi; omega
      subst this
      rw [List.getElem_append_right (by omega)]
      simpa [h1] using hx
end
/-- A call that came in: its kind, its number, its callbacks. -/
structure OpC where
  kd : Int
  n : Int
  A : Option Addr
  cc : Nat
  zs : List Int
/-- The calls may be read. -/
structure OpOk (w : World) (x : OpC) : Prop where
  kd : i64R x.kd
  n : i64R x.n
  rd : Rd w .u32 x.A x.zs
  rng : ∀ z ∈ x.zs, 0 ≤ z ∧ z < 4294967296
  cap : x.zs.length ≤ x.cc ∧ x.cc ≤ 9223372036854775807
  nil : x.zs.length = 0 → x.A = none → x.cc = 0
def Ops (w : World) (A : Option Addr) (l : List OpC) : Prop :=
  ∀ j (h : j < l.length), ∃ b off, A = some ⟨b, off, none⟩ ∧ b < w.heap.size ∧ w.cell? ⟨b, off + j * 3, none⟩ = some (.int .i64 l[j].kd) ∧ w.cell? ⟨b, off + j * 3 + 1, none⟩ = some (.int .i64 l[j].n) ∧
    w.cell? ⟨b, off + j * 3 + 2, none⟩ = some (.slice l[j].A l[j].zs.length l[j].cc) ∧ OpOk w l[j]
theorem OpOk.below {w w' : World} {x : OpC} (hb : Below w.heap.size w w') (h : OpOk w x) : OpOk w' x := ⟨h.kd, h.n, h.rd.below hb, h.rng, h.cap, h.nil⟩
theorem Ops.below {w w' : World} {A : Option Addr} {l : List OpC} (hb : Below w.heap.size w w') (h : Ops w A l) : Ops w' A l := fun j hj => by
  obtain ⟨b, off, e, hl, c0, c1, c2, ho⟩ := h j hj
  exact ⟨b, off, e, Nat.lt_of_lt_of_le hl hb.size, (hb.cell (p := ⟨b, off + j * 3, none⟩) hl).trans c0, (hb.cell (p := ⟨b, off + j * 3 + 1, none⟩) hl).trans c1, (hb.cell (p := ⟨b, off + j * 3 + 2, none⟩) hl).trans c2, ho.below hb⟩
theorem OpOk.src {w : World} {x : OpC} (h : OpOk w x) : Src w 1 (.slice x.A x.zs.length x.cc) x.zs.length (x.zs.map (Value.int .u32)) := h.rd.src h.nil
theorem i64_rng {z : Int} (h : (Lit.int .i64 z).wf = true) : i64R z := by have := i64_of h; unfold i64R; omega
theorem cellsU32' : Try.prog.cellsOf 42 = 1 := by kernel_rfl
theorem open_ops {H : Type} {enc : TypeId × Value → H} {w : World} {r : Reach} {b0 base : Nat} {sp : Nat → Bool} {held : Bool} {v : Value} {d : DataW H} {p : List MemPlace}
    (hv : Value.okWide Try.prog w r b0 53 v) (h : DataW.Trod enc Try.prog w base sp held 53 v d p) : ∃ A l c, v = .slice A l.length c ∧ l.length ≤ c ∧ c ≤ 9223372036854775807 ∧ Ops w A l := by
  obtain ⟨fuel, hf⟩ := h
  obtain ⟨a', l', c', rfl⟩ := okWide_slice Try.underlying53 hv
  rcases open_rows Try.underlying53 Try.underlying61 (by kernel_rfl) (by kernel_rfl) hf with e | ⟨a, len, cap, e, hl, hm, hi⟩
  · simp only [Value.cells, List.cons.injEq, and_true, Value.slice.injEq] at e
    obtain ⟨rfl, rfl, rfl⟩ := e
    exact ⟨none, [], 0, rfl, by simp, by simp, fun j h => absurd h (by simp)⟩
  · have e' : Value.slice a' l' c' = .slice (some a) len cap := by simpa [Value.cells] using e
    simp only [Value.slice.injEq] at e'
    obtain ⟨rfl, rfl, rfl⟩ := e'
    have hx : ∀ i, i < l' → ∃ x : OpC, w.cell? (a.add (i * 3)) = some (.int .i64 x.kd) ∧ w.cell? (a.add (i * 3 + 1)) = some (.int .i64 x.n) ∧ w.cell? (a.add (i * 3 + 2)) = some (.slice x.A x.zs.length x.cc) ∧ OpOk w x := by
      intro i hil
      obtain ⟨n0, v0, y0, c0, t0⟩ := hi i hil 0 _ rfl
      obtain ⟨n1, v1, y1, c1, t1⟩ := hi i hil 1 _ rfl
      obtain ⟨n2, v2, y2, c2, t2⟩ := hi i hil 2 _ rfl
      obtain ⟨a0, e0, _, w0⟩ := DataW.trod_int Try.underlying3 t0
      obtain ⟨a1, e1, _, w1⟩ := DataW.trod_int Try.underlying3 t1
      obtain ⟨A2, cc2, zs2, e2, h2a, h2b, h2c, h2d, h2e⟩ := open_nums Try.underlying43 Try.underlying42 cellsU32' t2
      simp only [List.cons.injEq, and_true] at e0 e1 e2
      subst e0 e1 e2
      exact ⟨⟨a0, a1, A2, cc2, zs2⟩, c0, c1, c2, i64_rng w0, i64_rng w1, h2c, fun z hz => by have := u32_of (h2d z hz); omega, ⟨h2a, h2b⟩, h2e⟩
    obtain ⟨l, hl1, hl2⟩ := list_of _ hx
    subst hl1
    refine ⟨some a, l, c', rfl, hl, by simp only [maxLen] at hm; omega, fun j hj => ?_⟩
    have h0 := (hl2 0 (by omega)).1
    rw [Nat.zero_mul] at h0
    obtain ⟨b, off, rfl⟩ := spot_none h0
    obtain ⟨c0, c1, c2, ho⟩ := hl2 j hj
    rw [Addr.add_lit] at c0 c1 c2
    exact ⟨b, off, rfl, World.block_lt_of_cell? w _ c0, c0, c1, c2, ho⟩
end Go.Proofs.Ytijfldgkmbhdoaa
