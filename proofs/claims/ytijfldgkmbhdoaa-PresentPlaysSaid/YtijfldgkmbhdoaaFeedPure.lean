/- Commits with one callback each: what a blank yields; which commit is superseded. -/
import Derived.Test.YtijfldgkmbhdoaaTick2
set_option linter.unusedVariables false
set_option linter.unusedSimpArgs false
namespace Go.Proofs.Ytijfldgkmbhdoaa

theorem getD_of {α : Type} {l : List α} {i : Nat} {x d : α} (h : l[i]? = some x) : l.getD i d = x := by
  rw [List.getD_eq_getElem?_getD, h, Option.getD_some]
theorem dlCells_get {l : List Dl} {e : Nat} {d : Dl} (h : l[e]? = some d) (k : Nat) (hk : k < 9) : (dlCells l)[e * 9 + k]? = (dlCell d)[k]? := by
  unfold dlCells
  induction l generalizing e with
  | nil => simp at h
  | cons x l ih =>
    have hx : (dlCell x).length = 9 := rfl
    cases e with
    | zero =>
      simp only [List.getElem?_cons_zero, Option.some.injEq] at h
      subst h
      rw [List.flatMap_cons, List.getElem?_append_left (by rw [hx]; omega)]
      simp
    | succ e =>
      rw [List.flatMap_cons, List.getElem?_append_right (by rw [hx]; omega), hx]
      rw [show (e + 1) * 9 + k - 9 = e * 9 + k by omega]
      exact ih (by simpa using h)
theorem itemOut_one {iv bl : Int} {its : List Itm} {q : Nat} {s z : Int} {cv : Value} (h : its[q]? = some ⟨s, cv, [z]⟩) :
    itemOut iv bl its q = [⟨s, 19, bl / 1000000, z⟩, if supB its q then ⟨s, 23, 0, 0⟩ else ⟨s, 22, bl / 1000, bl / iv⟩] := by
  unfold itemOut
  rw [getD_of h]
  rfl
theorem one_of {x : List Int} (h : x.length = 1) : ∃ z, x = [z] := by
  match x, h with
  | [z], _ => exact ⟨z, rfl⟩
theorem tickUpto_two (iv bl : Int) (its : List Itm) (h : ∀ x ∈ its, x.cbs.length = 1) : ∀ n, n ≤ its.length → (tickUpto iv bl its n).length = 2 * n
  | 0, _ => by simp [tickUpto]
  | n + 1, hn => by
    rw [tickUpto_succ, List.length_append, tickUpto_two iv bl its h n (by omega)]
    have hx : its[n]? = some its[n] := List.getElem?_eq_getElem (by omega)
    obtain ⟨z, hz⟩ := one_of (h _ (List.getElem_mem (by omega : n < its.length)))
    rw [itemOut_one (s := its[n].s) (cv := its[n].cv) (z := z) (by rw [hx, ← hz])]
    simp only [List.length_cons, List.length_nil]
    omega
theorem tickUpto_at (iv bl : Int) (its : List Itm) (h : ∀ x ∈ its, x.cbs.length = 1) {q : Nat} {s z : Int} {cv : Value} (hq : its[q]? = some ⟨s, cv, [z]⟩) : ∀ n, q < n → n ≤ its.length →
    (tickUpto iv bl its n)[2 * q]? = some ⟨s, 19, bl / 1000000, z⟩ ∧ (tickUpto iv bl its n)[2 * q + 1]? = some (if supB its q then ⟨s, 23, 0, 0⟩ else ⟨s, 22, bl / 1000, bl / iv⟩)
  | 0, h0, _ => by omega
  | n + 1, hn, hl => by
    have hlen := tickUpto_two iv bl its h n (by omega)
    rw [tickUpto_succ]
    by_cases hqn : q = n
    · subst hqn
      rw [List.getElem?_append_right (by omega), List.getElem?_append_right (by omega), hlen, itemOut_one hq]
      simp
    · have := tickUpto_at iv bl its h hq n (by omega) (by omega)
      rw [List.getElem?_append_left (by omega), List.getElem?_append_left (by omega)]
      exact this

/-- How many of the first numbers are not 0. -/
def cnt (zs : List Int) (i : Nat) : Nat := ((zs.take i).filter (fun z => z != 0)).length
theorem cnt_zero (zs : List Int) : cnt zs 0 = 0 := rfl
theorem cnt_succ {zs : List Int} {i : Nat} (h : i < zs.length) : cnt zs (i + 1) = cnt zs i + (if zs[i] = 0 then 0 else 1) := by
  unfold cnt
  rw [List.take_add_one, List.getElem?_eq_getElem h, List.filter_append, List.length_append]
  by_cases hz : zs[i] = 0
  · simp [hz]
  · simp [hz]
theorem cnt_le (zs : List Int) (i : Nat) : cnt zs i ≤ i := by
  unfold cnt
  refine Nat.le_trans (List.length_filter_le _ _) ?_
  rw [List.length_take]
  omega
theorem cnt_mono {zs : List Int} {i j : Nat} (h : i ≤ j) : cnt zs i ≤ cnt zs j := by
  unfold cnt
  have e : zs.take i = (zs.take j).take i := by rw [List.take_take, Nat.min_eq_left h]
  rw [e]
  exact ((List.take_sublist i (zs.take j)).filter _).length_le
theorem cnt_lt {zs : List Int} {i j : Nat} (h : i < j) (hj : j ≤ zs.length) (hz : zs[i]'(by omega) ≠ 0) : cnt zs i < cnt zs j := by
  have h1 := cnt_succ (zs := zs) (i := i) (by omega)
  rw [if_neg hz] at h1
  have h2 := cnt_mono (zs := zs) (i := i + 1) (j := j) (by omega)
  omega
/-- The commits of the first j surfaces. -/
structure Fb (zs : List Int) (j : Nat) (its : List Itm) : Prop where
  surf : its.map (·.s) = (zs.take j).filter (fun z => z != 0)
  one : ∀ x ∈ its, x.cbs.length = 1
  at_ : ∀ i (h : i < j) (hj : j ≤ zs.length), zs[i] ≠ 0 → ∃ cv, its[cnt zs i]? = some ⟨zs[i], cv, [1000 + (i : Int)]⟩
theorem Fb.len {zs : List Int} {j : Nat} {its : List Itm} (h : Fb zs j its) : its.length = cnt zs j := by
  unfold cnt
  rw [← h.surf, List.length_map]
theorem Fb.nil (zs : List Int) : Fb zs 0 [] := ⟨rfl, by simp, fun i h => by omega⟩
theorem Fb.skip {zs : List Int} {j : Nat} {its : List Itm} (h : Fb zs j its) (hj : j < zs.length) (hz : zs[j] = 0) : Fb zs (j + 1) its := by
  refine ⟨?_, h.one, fun i hi hj' hzi => ?_⟩
  · rw [h.surf, List.take_add_one, List.getElem?_eq_getElem hj, List.filter_append, hz]
    simp
  · by_cases hij : i = j
    · subst hij; exact absurd hz hzi
    · exact h.at_ i (by omega) (by omega) hzi
theorem Fb.more {zs : List Int} {j : Nat} {its : List Itm} (h : Fb zs j its) (hj : j < zs.length) (hz : zs[j] ≠ 0) (cv : Value) : Fb zs (j + 1) (its ++ [⟨zs[j], cv, [1000 + (j : Int)]⟩]) := by
  refine ⟨?_, ?_, fun i hi hj' hzi => ?_⟩
  · rw [List.map_append, h.surf, List.take_add_one, List.getElem?_eq_getElem hj, List.filter_append]
    simp [hz]
  · intro x hx
    rcases List.mem_append.1 hx with hx | hx
    · exact h.one x hx
    · simp only [List.mem_singleton] at hx; subst hx; rfl
  · by_cases hij : i = j
    · subst hij
      refine ⟨cv, ?_⟩
      rw [← h.len]
      simp
    · obtain ⟨cv', e⟩ := h.at_ i (by omega) (by omega) hzi
      refine ⟨cv', ?_⟩
      rw [List.getElem?_append_left (by rw [h.len]; exact cnt_lt (by omega) (by omega) hzi)]
      exact e
/-- A commit is superseded where its surface comes again. -/
theorem Fb.sup {zs : List Int} {its : List Itm} (h : Fb zs zs.length its) {i : Nat} (hi : i < zs.length) (hz : zs[i] ≠ 0) : supB its (cnt zs i) = (zs.drop (i + 1)).any (fun z => z == zs[i]) := by
  obtain ⟨cv, e⟩ := h.at_ i hi (Nat.le_refl _) hz
  have hs : (its.drop (cnt zs i + 1)).map (·.s) = (zs.drop (i + 1)).filter (fun z => z != 0) := by
    rw [List.map_drop, h.surf, List.take_length]
    have e1 : zs.filter (fun z => z != 0) = (zs.take (i + 1)).filter (fun z => z != 0) ++ (zs.drop (i + 1)).filter (fun z => z != 0) := by rw [← List.filter_append, List.take_append_drop]
    have e2 : ((zs.take (i + 1)).filter (fun z => z != 0)).length = cnt zs i + 1 := by
      have := cnt_succ hi
      rw [if_neg hz] at this
      exact this
    rw [e1, ← e2, List.drop_left]
  unfold supB
  rw [getD_of e]
  have e3 : (its.drop (cnt zs i + 1)).any (fun x => x.s == zs[i]) = ((its.drop (cnt zs i + 1)).map (·.s)).any (fun z => z == zs[i]) := by rw [List.any_map]; rfl
  simp only
  rw [e3, hs, List.any_filter]
  congr 1
  funext z
  by_cases hzz : z = zs[i]
  · subst hzz; simp [hz]
  · simp [hzz]
end Go.Proofs.Ytijfldgkmbhdoaa
