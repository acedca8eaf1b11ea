/- Slices of numbers that came in: what may be read. -/
import Derived.Test.YtgikmcgoaihggaaRow
import Derived.Test.YtgikmcgoaihggaaMem
import Derived.ChangeSlices
set_option linter.unusedVariables false
set_option linter.unusedSimpArgs false
namespace Go.Proofs.Ytgikmcgoaihggaa
open Go.ChangeShapes Go.WideShapes Go.ChangeAt Go.RowKit Go.Joins

/-- The numbers of a slice that came in. -/
def Rd (w : World) (k : IntKind) (A : Option Addr) (zs : List Int) : Prop :=
  ∀ j (h : j < zs.length), ∃ b off, A = some ⟨b, off, none⟩ ∧ b < w.heap.size ∧ w.cell? ⟨b, off + j, none⟩ = some (.int k zs[j])
theorem Rd.below {w w' : World} {k : IntKind} {A : Option Addr} {zs : List Int} (hb : Below w.heap.size w w') (h : Rd w k A zs) : Rd w' k A zs := fun j hj => by
  obtain ⟨b, off, e, hl, hc⟩ := h j hj
  exact ⟨b, off, e, Nat.lt_of_lt_of_le hl hb.size, (hb.cell (p := ⟨b, off + j, none⟩) hl).trans hc⟩
theorem Rd.src {w : World} {k : IntKind} {A : Option Addr} {zs : List Int} {c : Nat} (h : Rd w k A zs) (h0 : zs.length = 0 → A = none → c = 0) : Src w 1 (.slice A zs.length c) zs.length (zs.map (Value.int k)) := by
  refine ⟨by simp, by simp [Value.oneCell'], ?_⟩
  cases A with
  | none =>
    have hz : zs = [] := by
      cases zs with
      | nil => rfl
      | cons z l => obtain ⟨b, off, e, _⟩ := h 0 (by simp); cases e
    subst hz
    exact .inl ⟨by rw [h0 rfl rfl]; rfl, rfl⟩
  | some ad =>
    refine .inr ⟨ad, c, rfl, fun j u hj => ?_⟩
    have hlt : j < zs.length := by simpa using (List.getElem?_eq_some_iff.1 hj).1
    obtain ⟨b, off, e, _, hc⟩ := h j hlt
    obtain rfl := Option.some.inj e
    rw [List.getElem?_map, List.getElem?_eq_getElem hlt] at hj
    simp only [Option.map_some, Option.some.injEq] at hj
    subst hj
    rw [Addr.add_lit]
    exact hc
theorem open_nums {H : Type} {enc : TypeId × Value → H} {w : World} {base : Nat} {sp : Nat → Bool} {held : Bool} {t e : TypeId} {k : IntKind} {fuel : Nat} {cs : List Value} {x : DataW H × List MemPlace} (ht : Try.prog.underlying t = some (.slice e)) (he : Try.prog.underlying e = some (.int k)) (hc : Try.prog.cellsOf e = 1)
    (h : DataW.trod enc Try.prog w base sp held fuel t cs = some x) :
    ∃ A c zs, cs = [.slice A zs.length c] ∧ zs.length ≤ c ∧ c ≤ 9223372036854775807 ∧ Rd w k A zs ∧ (∀ z ∈ zs, (Lit.int k z).wf = true) ∧ (zs.length = 0 → A = none → c = 0) := by
  rcases open_ints ht he hc h with ⟨rfl, _⟩ | ⟨a, len, cap, zs, rfl, _, hl, hm, hz, _, hcell, hwf⟩
  · exact ⟨none, 0, [], rfl, by simp, by simp, fun j h => absurd h (by simp), by simp, fun _ _ => rfl⟩
  · have hlen : len ≤ zs.length := by rw [hz]; split <;> omega
    have e1 : (zs.take len).length = len := by rw [List.length_take]; omega
    refine ⟨some a, cap, zs.take len, by rw [e1], by omega, by simp only [maxLen] at hm; omega, fun j hj => ?_, fun z hz' => hwf z (List.mem_of_mem_take hz'), fun _ hn => by cases hn⟩
    obtain ⟨b, off, rfl, hc'⟩ := ints_at hcell (by omega)
    have hj' : j < zs.length := by omega
    have hcj := hc' j hj'
    refine ⟨b, off, rfl, World.block_lt_of_cell? w ⟨b, off + j, none⟩ hcj, ?_⟩
    rw [hcj]
    simp [hj']
theorem open_numsV {H : Type} {enc : TypeId × Value → H} {w : World} {r : Reach} {b0 base : Nat} {sp : Nat → Bool} {held : Bool} {t e : TypeId} {k : IntKind} {v : Value} {d : DataW H} {p : List MemPlace} (ht : Try.prog.underlying t = some (.slice e)) (he : Try.prog.underlying e = some (.int k)) (hc : Try.prog.cellsOf e = 1)
    (hv : Value.okWide Try.prog w r b0 t v) (h : DataW.Trod enc Try.prog w base sp held t v d p) :
    ∃ A c zs, v = .slice A zs.length c ∧ zs.length ≤ c ∧ c ≤ 9223372036854775807 ∧ Rd w k A zs ∧ (∀ z ∈ zs, (Lit.int k z).wf = true) := by
  obtain ⟨fuel, hf⟩ := h
  obtain ⟨a', l', c', rfl⟩ := okWide_slice ht hv
  obtain ⟨A, c, zs, e1, h1, h2, h3, h4, _⟩ := open_nums ht he hc hf
  refine ⟨A, c, zs, ?_, h1, h2, h3, h4⟩
  simpa [Value.cells] using e1
end Go.Proofs.Ytgikmcgoaihggaa
