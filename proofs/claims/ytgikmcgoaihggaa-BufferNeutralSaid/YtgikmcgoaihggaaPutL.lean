/- Lists: what pasting does to a part, to itself, to what it does not meet; a pixel stored. -/
import Derived.Test.YtgikmcgoaihggaaPutP
set_option linter.unusedVariables false
set_option linter.unusedSimpArgs false
namespace Go.Proofs.Ytgikmcgoaihggaa
open Go.RowKit

def cpy (_ p : Px) : Px := p
/-- The program's and the reference's Over, as numbers. -/
def overP (s d : Px) : Px := ⟨min s.r s.a + prod8 (min d.r d.a) (255 - s.a), min s.g s.a + prod8 (min d.g d.a) (255 - s.a), min s.b s.a + prod8 (min d.b d.a) (255 - s.a), s.a + prod8 d.a (255 - s.a)⟩
def bld (d s : Px) : Px := overP s d
theorem vldB_at {l : List Px} (h : l.all vldB = true) {q : Nat} (hq : q < l.length) : vldB l[q] = true := List.all_eq_true.1 h _ (List.getElem_mem hq)
theorem ok_at {l : List Px} (h : PxsOk l) {q : Nat} (hq : q < l.length) : l[q].ok := h _ (List.getElem_mem hq)
theorem cropUp_get {ps : List Px} {W H x0 n y0 : Nat} (hp : ps.length = H * W) (hx : x0 + n ≤ W) : ∀ k, y0 + k ≤ H → ∀ u v, u < n → v < k → (cropUp ps W x0 n y0 k).getD (v * n + u) px0 = ps.getD ((y0 + v) * W + x0 + u) px0
  | 0, _, _, _, _, hv => absurd hv (Nat.not_lt_zero _)
  | k + 1, hk, u, v, hu, hv => by
    have hl := cropUp_length (y0 := y0) hp hx k (by omega)
    have hin := crop_in (W := W) (H := H) (y := y0 + k) (x0 := x0) (n := n) (by omega) hx
    rw [cropUp_succ, List.getD_eq_getElem?_getD]
    by_cases e : v < k
    · have hlt : v * n + u < k * n := by
        have h := Nat.mul_le_mul_right n (show v + 1 ≤ k by omega)
        rw [Nat.add_mul, Nat.one_mul] at h
        omega
      rw [List.getElem?_append_left (by rw [hl]; exact hlt), ← List.getD_eq_getElem?_getD]
      exact cropUp_get hp hx k (by omega) u v hu e
    · obtain rfl : v = k := by omega
      rw [List.getElem?_append_right (by rw [hl]; omega), hl, show v * n + u - v * n = u by omega]
      rw [List.getElem?_eq_getElem (by rw [rowP_length (by rw [hp]; exact hin)]; exact hu), Option.getD_some, rowP_get (by rw [hp]; exact hin), getD_at (by rw [hp]; omega)]
/-- What pasting a part at its place yields: nothing new. -/
theorem paste_part {ps : List Px} {W H x0 n y0 k : Nat} (hp : ps.length = H * W) (hx : x0 + n ≤ W) (hy : y0 + k ≤ H) (hW : 0 < W) : putM cpy ps (cropUp ps W x0 n y0 k) W n k x0 y0 (H * W) = ps := by
  refine List.ext_getElem putM_length fun q h1 h2 => ?_
  rw [putM_get, if_pos (by omega)]
  unfold putG
  by_cases hc : cov W n k x0 y0 q
  · rw [if_pos hc]
    have hc' := hc
    unfold cov at hc'
    have hq := Nat.div_add_mod q W
    rw [Nat.mul_comm] at hq
    generalize q % W = c at *
    generalize q / W = j at *
    obtain ⟨u, hu⟩ : ∃ u : Nat, (c : Int) - x0 = u := ⟨((c : Int) - x0).toNat, by omega⟩
    obtain ⟨v, hv⟩ : ∃ v : Nat, (j : Int) - y0 = v := ⟨((j : Int) - y0).toNat, by omega⟩
    rw [hu, hv]
    have e3 : ((v : Int) * (n : Int) + (u : Int)).toNat = v * n + u := by
      have : ((v * n : Nat) : Int) = (v : Int) * (n : Int) := by simp
      omega
    rw [e3]
    unfold cpy
    rw [cropUp_get hp hx k hy u v (by omega) (by omega)]
    rw [show (y0 + v) * W + x0 + u = q by rw [show y0 + v = j by omega]; omega, getD_at h2]
  · rw [if_neg hc, getD_at h2]
/-- The pixels of a part are the whole's. -/
theorem cropUp_mem {ps : List Px} {W x0 n y0 k : Nat} {p : Px} (h : p ∈ cropUp ps W x0 n y0 k) : p ∈ ps := by
  unfold cropUp at h
  obtain ⟨q, _, hq⟩ := List.mem_flatMap.1 h
  unfold rowP at hq
  exact List.mem_of_mem_drop (List.mem_of_mem_take hq)
theorem crop_valid {ps : List Px} {W H x0 n y0 k : Nat} (kb : bufB W H ps = true) (hp : ps.length = H * W) (hW : W ≤ 256) (hH : H ≤ 256) (hx : x0 + n ≤ W) (hy : y0 + k ≤ H) (hn : 1 ≤ n) (hk : 1 ≤ k) : bufB n k (cropUp ps W x0 n y0 k) = true := by
  obtain ⟨_, _, _, hv⟩ := (bufB_iff _ _ _).1 kb
  rw [bufB_iff]
  refine ⟨by omega, by omega, ?_, ?_⟩
  · rw [cropUp_length hp hx k hy]
    have : ((k * n : Nat) : Int) = (k : Int) * (n : Int) := by simp
    rw [this, Int.mul_comm]
  · exact List.all_eq_true.2 fun p h => List.all_eq_true.1 hv _ (cropUp_mem h)
theorem pxCells_set (l : List Px) (j : Nat) (p : Px) (h : j < l.length) :
    pxCells (l.set j p) = ((((pxCells l).set (j * 4) (.int .u8 p.r)).set (j * 4 + 1) (.int .u8 p.g)).set (j * 4 + 2) (.int .u8 p.b)).set (j * 4 + 3) (.int .u8 p.a) := by
  unfold pxCells
  induction l generalizing j with
  | nil => simp at h
  | cons x l ih =>
    cases j with
    | zero => simp [pxCell]
    | succ j =>
      have := ih j (by simpa using h)
      have e0 : (j + 1) * 4 = j * 4 + 1 + 1 + 1 + 1 := by omega
      simp only [List.set_cons_succ, List.flatMap_cons, pxCell, e0, List.cons_append, List.nil_append]
      rw [this]
/-- A pixel stored into a row of the call's own. -/
theorem OwnP.put {w : World} {base g c n : Nat} {ps : List Px} (h : w.ownsRow base 43 4 (.slice (some ⟨g, 0, none⟩) n c) n (pxCells ps)) (hn : n = ps.length) {j : Nat} (hj : j < n) (p : Px) :
    ((((w.setCell ⟨g, j * 4, none⟩ (.int .u8 p.r)).setCell ⟨g, j * 4 + 1, none⟩ (.int .u8 p.g)).setCell ⟨g, j * 4 + 2, none⟩ (.int .u8 p.b)).setCell ⟨g, j * 4 + 3, none⟩ (.int .u8 p.a)).ownsRow base 43 4 (.slice (some ⟨g, 0, none⟩) n c) n (pxCells (ps.set j p)) ∧
      FrT base [43] w ((((w.setCell ⟨g, j * 4, none⟩ (.int .u8 p.r)).setCell ⟨g, j * 4 + 1, none⟩ (.int .u8 p.g)).setCell ⟨g, j * 4 + 2, none⟩ (.int .u8 p.b)).setCell ⟨g, j * 4 + 3, none⟩ (.int .u8 p.a)) := by
  subst hn
  have hT : [43].contains 43 = true ∧ base ≤ base ∨ w.heap.size ≤ base := .inl ⟨by simp, Nat.le_refl _⟩
  obtain ⟨h1, g1⟩ := h.stored (j * 4) (.int .u8 p.r)
  obtain ⟨h2, g2⟩ := h1.stored (j * 4 + 1) (.int .u8 p.g)
  obtain ⟨h3, g3⟩ := h2.stored (j * 4 + 2) (.int .u8 p.b)
  obtain ⟨h4, g4⟩ := h3.stored (j * 4 + 3) (.int .u8 p.a)
  refine ⟨by rw [pxCells_set _ _ _ hj]; exact h4, ?_⟩
  have f1 := (FrT.refl base [43] w).grown h g1 (.inl ⟨by simp, Nat.le_refl _⟩)
  have f2 := f1.grown h1 g2 (.inl ⟨by simp, Nat.le_refl _⟩)
  have f3 := f2.grown h2 g3 (.inl ⟨by simp, Nat.le_refl _⟩)
  exact f3.grown h3 g4 (.inl ⟨by simp, Nat.le_refl _⟩)
/-- A row of pixels that has some: its block, its cells. -/
theorem own_px {w : World} {base n : Nat} {v : Value} {ps : List Px} (h : w.ownsRow base 43 4 v n (pxCells ps)) (hn : 0 < n) : ∃ g c, v = .slice (some ⟨g, 0, none⟩) n c ∧ n ≤ c ∧ c ≤ 9223372036854775807 ∧ base ≤ g ∧ g < w.heap.size ∧
    (∀ k u, (pxCells ps)[k]? = some u → w.cell? ⟨g, k, none⟩ = some u) ∧ ∀ k, w.frozen? ⟨g, k, none⟩ = false := by
  rcases h.2 with ⟨_, h0⟩ | ⟨g, cap, cur, rfl, hbg, hg, h1, h2, _⟩
  · omega
  · refine ⟨g, cap, rfl, h1, by simp only [maxLen] at h2; omega, hbg, (Array.getElem?_eq_some_iff.1 hg).1, fun k u hk => ?_, fun k => h.frozenAt k⟩
    have hlt := (List.getElem?_eq_some_iff.1 hk).1
    have hl : (pxCells ps).length = n * 4 := h.1
    rw [hl] at hlt
    rw [h.cellAt k hlt, hk]
/-- The error of Paste and of BlendOver, or 0; what they hand back. -/
def putE (dw dh : Int) (d : List Px) (sw sh : Int) (s : List Px) : Int := if bufB dw dh d = true ∧ bufB sw sh s = true then 0 else 15
def putB (f : Px → Px → Px) (dw dh : Int) (d : List Px) (sw sh : Int) (s : List Px) (x y : Int) : Int × Int × List Px :=
  if bufB dw dh d = true ∧ bufB sw sh s = true then (dw, dh, putM f d s dw.toNat sw sh x y d.length) else (0, 0, [])
theorem put_bad {f : Px → Px → Px} {dw dh : Int} {d : List Px} {sw sh : Int} {s : List Px} (x y : Int) (h : ¬ (bufB dw dh d = true ∧ bufB sw sh s = true)) : putE dw dh d sw sh s = 15 ∧ putB f dw dh d sw sh s x y = (0, 0, []) :=
  ⟨by unfold putE; rw [if_neg h], by unfold putB; rw [if_neg h]⟩
theorem put_ok {f : Px → Px → Px} {dw dh : Int} {d : List Px} {sw sh : Int} {s : List Px} (x y : Int) (h : bufB dw dh d = true ∧ bufB sw sh s = true) : putE dw dh d sw sh s = 0 ∧ putB f dw dh d sw sh s x y = (dw, dh, putM f d s dw.toNat sw sh x y d.length) :=
  ⟨by unfold putE; rw [if_pos h], by unfold putB; rw [if_pos h]⟩
theorem atP_in2 {W H x y : Nat} {ps : List Px} (hW : 1 ≤ W ∧ W ≤ 256) (hH : 1 ≤ H ∧ H ≤ 256) (hx : x < W) (hy : y < H) (hlen : ps.length = H * W) (h : y * W + x < ps.length) : atP W H ps x y = ps[y * W + x] := by
  have e : atB W H ps.length x y = true := by
    rw [atB_iff]
    refine ⟨by omega, by omega, by omega, by omega, ?_⟩
    have : ((y * W : Nat) : Int) = (y : Int) * (W : Int) := by simp
    omega
  have e2 : ((y : Int) * (W : Int) + (x : Int)).toNat = y * W + x := by
    have : ((y * W : Nat) : Int) = (y : Int) * (W : Int) := by simp
    omega
  unfold atP
  rw [if_pos e, e2, List.getD_eq_getElem?_getD, List.getElem?_eq_getElem h, Option.getD_some]
theorem putG_in {f : Px → Px → Px} {d s : List Px} {W i j SW SH u v : Nat} {x y : Int} (hi : i < W) (hu : (i : Int) - x = u) (hv : (j : Int) - y = v) (hus : u < SW) (hvs : v < SH) :
    putG f d s W SW SH x y (j * W + i) = f (d.getD (j * W + i) px0) (s.getD (v * SW + u) px0) := by
  have e1 : (j * W + i) % W = i := by rw [Nat.mul_comm, Nat.mul_add_mod, Nat.mod_eq_of_lt hi]
  have e2 : (j * W + i) / W = j := by rw [Nat.mul_comm, Nat.mul_add_div (by omega), Nat.div_eq_of_lt hi, Nat.add_zero]
  have e3 : ((v : Int) * (SW : Int) + (u : Int)).toNat = v * SW + u := by
    have : ((v * SW : Nat) : Int) = (v : Int) * (SW : Int) := by simp
    omega
  unfold putG
  rw [if_pos ((cov_at hi).2 (by omega)), e1, e2, hu, hv, e3]
end Go.Proofs.Ytgikmcgoaihggaa
