/- Runs: they hold what is marked and nothing else; pasting the parts within them. -/
import Derived.Test.YtgikmcgoaihggaaPutL
import Derived.Test.YtgikmcgoaihggaaBRunP
set_option linter.unusedVariables false
set_option linter.unusedSimpArgs false
namespace Go.Proofs.Ytgikmcgoaihggaa
open Go.RowKit

def GoodR (ms : Nat → Bool) (W H : Nat) (r : Rc) : Prop := ∃ x0 x1 y : Nat, r = ⟨x0, y, x1, (y : Int) + 1⟩ ∧ x0 < x1 ∧ x1 ≤ W ∧ y < H ∧ ∀ x, x0 ≤ x → x < x1 → ms (y * W + x) = true
def CovR (l : List Rc) (y x : Nat) : Prop := ∃ r ∈ l, r.y0 = y ∧ r.x0 ≤ x ∧ (x : Int) < r.x1
structure RowInv (ms : Nat → Bool) (W H j i : Nat) (l : List Rc) : Prop where
  good : ∀ r ∈ l, GoodR ms W H r
  cov : ∀ y x, (y < j ∧ x < W ∨ y = j ∧ x < i) → ms (y * W + x) = true → CovR l y x
  last : opn ms W j i = true → ∃ k, ∃ x0 : Nat, l = k ++ [⟨x0, j, i, (j : Int) + 1⟩]
theorem rowInv_step {ms : Nat → Bool} {W H j i : Nat} {l : List Rc} (h : RowInv ms W H j i l) (hi : i < W) (hj : j < H) : RowInv ms W H j (i + 1) (rstep l i j (ms (j * W + i)) (opn ms W j i)) := by
  cases hm : ms (j * W + i) with
  | false =>
    refine ⟨h.good, fun y x hx hms => h.cov y x ?_ hms, fun ho => ?_⟩
    · rcases hx with hx | ⟨rfl, hx⟩
      · exact .inl hx
      · refine .inr ⟨rfl, ?_⟩
        by_cases e : x = i
        · subst e; rw [hm] at hms; cases hms
        · omega
    · rw [opn_succ, hm] at ho; cases ho
  | true =>
    cases ho : opn ms W j i with
    | true =>
      obtain ⟨k, x0, hl⟩ := h.last ho
      have hs : rstep l i j true true = k ++ [⟨x0, j, (i : Int) + 1, (j : Int) + 1⟩] := by
        show setLast l ((i : Int) + 1) = _
        rw [hl, setLast_append]
      rw [hs]
      have hg := h.good ⟨x0, j, i, (j : Int) + 1⟩ (by rw [hl]; simp)
      obtain ⟨a, z, y, he, h1, h2, h3, h4⟩ := hg
      simp only [Rc.mk.injEq] at he
      obtain ⟨e1, e2, e3, _⟩ := he
      obtain rfl : x0 = a := by omega
      obtain rfl : j = y := by omega
      obtain rfl : i = z := by omega
      refine ⟨fun r hr => ?_, fun y x hx hms => ?_, fun _ => ⟨k, x0, by simp⟩⟩
      · rcases List.mem_append.1 hr with hr | hr
        · exact h.good r (by rw [hl]; exact List.mem_append_left _ hr)
        · simp only [List.mem_cons, List.not_mem_nil, or_false] at hr
          subst hr
          refine ⟨x0, i + 1, j, by simp, by omega, by omega, h3, fun x hx0 hx1 => ?_⟩
          by_cases e : x = i
          · subst e; exact hm
          · exact h4 x hx0 (by omega)
      · by_cases e : y = j ∧ x = i
        · obtain ⟨rfl, rfl⟩ := e
          exact ⟨_, List.mem_append_right _ (List.mem_singleton.2 rfl), rfl, by simp only; omega, by simp only; omega⟩
        · obtain ⟨r, hr, q1, q2, q3⟩ := h.cov y x (by omega) hms
          rw [hl] at hr
          rcases List.mem_append.1 hr with hr | hr
          · exact ⟨r, List.mem_append_left _ hr, q1, q2, q3⟩
          · simp only [List.mem_cons, List.not_mem_nil, or_false] at hr
            subst hr
            refine ⟨_, List.mem_append_right _ (List.mem_singleton.2 rfl), q1, q2, ?_⟩
            simp only at q3 ⊢
            omega
    | false =>
      show RowInv ms W H j (i + 1) (l ++ [⟨i, j, (i : Int) + 1, (j : Int) + 1⟩])
      refine ⟨fun r hr => ?_, fun y x hx hms => ?_, fun _ => ⟨l, i, by simp⟩⟩
      · rcases List.mem_append.1 hr with hr | hr
        · exact h.good r hr
        · simp only [List.mem_cons, List.not_mem_nil, or_false] at hr
          subst hr
          refine ⟨i, i + 1, j, by simp, by omega, by omega, hj, fun x hx0 hx1 => ?_⟩
          obtain rfl : x = i := by omega
          exact hm
      · by_cases e : y = j ∧ x = i
        · obtain ⟨rfl, rfl⟩ := e
          exact ⟨_, List.mem_append_right _ (List.mem_singleton.2 rfl), rfl, by simp only; omega, by simp only; omega⟩
        · obtain ⟨r, hr, q1, q2, q3⟩ := h.cov y x (by omega) hms
          exact ⟨r, List.mem_append_left _ hr, q1, q2, q3⟩
theorem rowInv_row {ms : Nat → Bool} {W H j : Nat} {l : List Rc} (h : RowInv ms W H j 0 l) (hj : j < H) : ∀ i, i ≤ W → RowInv ms W H j i (rowR ms W j l i)
  | 0, _ => h
  | i + 1, hi => rowInv_step (rowInv_row h hj i (by omega)) (by omega) hj
theorem rowInv_all (ms : Nat → Bool) (W H : Nat) : ∀ j, j ≤ H → RowInv ms W H j 0 (allR ms W j)
  | 0, _ => ⟨fun r hr => (by cases hr), fun y x hx _ => (by omega), fun h => (by simp [opn] at h)⟩
  | j + 1, hj => by
    have h := rowInv_row (rowInv_all ms W H j (by omega)) (by omega) W (Nat.le_refl _)
    exact ⟨h.good, fun y x hx hms => h.cov y x (by omega) hms, fun h => (by simp [opn] at h)⟩
theorem runs_good {ms : Nat → Bool} {W H : Nat} {r : Rc} (h : r ∈ allR ms W H) : GoodR ms W H r := (rowInv_all ms W H H (Nat.le_refl _)).good r h
theorem runs_cov {ms : Nat → Bool} {W H x y : Nat} (hx : x < W) (hy : y < H) (h : ms (y * W + x) = true) : CovR (allR ms W H) y x := (rowInv_all ms W H H (Nat.le_refl _)).cov y x (.inl ⟨hy, hx⟩) h

def inR (W : Nat) (r : Rc) (q : Nat) : Bool := decide (r.y0 = ((q / W : Nat) : Int) ∧ r.x0 ≤ ((q % W : Nat) : Int) ∧ ((q % W : Nat) : Int) < r.x1)
/-- The first buffer with the parts within some runs pasted. -/
def stR (a b : List Px) (W : Nat) (rs : List Rc) : List Px := (List.range a.length).map fun q => if rs.any (fun r => inR W r q) = true then b.getD q px0 else a.getD q px0
theorem stR_length (a b : List Px) (W : Nat) (rs : List Rc) : (stR a b W rs).length = a.length := by simp [stR]
theorem stR_get {a b : List Px} {W : Nat} {rs : List Rc} {q : Nat} (h : q < (stR a b W rs).length) : (stR a b W rs)[q] = if rs.any (fun r => inR W r q) = true then b.getD q px0 else a.getD q px0 := by simp [stR]
theorem stR_nil (a b : List Px) (W : Nat) : stR a b W [] = a := by
  refine List.ext_getElem (stR_length _ _ _ _) fun q h1 h2 => ?_
  rw [stR_get]
  simp only [List.any_nil, Bool.false_eq_true, if_false]
  exact getD_at h2
theorem stR_step {a b : List Px} {W H x0 x1 y : Nat} {rs : List Rc} (ha : a.length = H * W) (hb : b.length = H * W) (hW : 0 < W) (hx : x0 < x1 ∧ x1 ≤ W) (hy : y < H) :
    putM cpy (stR a b W rs) (cropUp b W x0 (x1 - x0) y 1) W ((x1 - x0 : Nat) : Int) 1 x0 y (stR a b W rs).length = stR a b W (rs ++ [⟨x0, y, x1, (y : Int) + 1⟩]) := by
  refine List.ext_getElem (by rw [putM_length, stR_length, stR_length]) fun q h1 h2 => ?_
  have hq : q < a.length := by rw [stR_length] at h2; exact h2
  rw [putM_get, if_pos (by rw [stR_length]; exact hq), stR_get]
  have hany : (rs ++ [(⟨x0, y, x1, (y : Int) + 1⟩ : Rc)]).any (fun r => inR W r q) = (rs.any (fun r => inR W r q) || inR W ⟨x0, y, x1, (y : Int) + 1⟩ q) := by simp
  rw [hany]
  have hiff : cov W ((x1 - x0 : Nat) : Int) 1 x0 y q ↔ inR W ⟨x0, y, x1, (y : Int) + 1⟩ q = true := by
    unfold cov inR
    rw [decide_eq_true_iff]
    simp only
    omega
  unfold putG
  by_cases hc : cov W ((x1 - x0 : Nat) : Int) 1 x0 y q
  · rw [if_pos hc, hiff.1 hc, Bool.or_true, if_pos rfl]
    have hc' := hc
    unfold cov at hc'
    have hqq := Nat.div_add_mod q W
    rw [Nat.mul_comm] at hqq
    generalize q % W = c at *
    generalize q / W = j at *
    obtain ⟨u, hu⟩ : ∃ u : Nat, (c : Int) - x0 = u := ⟨((c : Int) - x0).toNat, by omega⟩
    rw [hu, show (j : Int) - y = 0 by omega, Int.zero_mul, Int.zero_add, Int.toNat_natCast]
    unfold cpy
    have hcg := cropUp_get (ps := b) (y0 := y) hb (show x0 + (x1 - x0) ≤ W by omega) 1 (by omega) u 0 (by omega) (by omega)
    rw [Nat.zero_mul, Nat.zero_add] at hcg
    rw [hcg]
    congr 1
    rw [show y + 0 = j by omega]
    omega
  · rw [if_neg hc, (by rcases h : inR W ⟨x0, y, x1, (y : Int) + 1⟩ q with _ | _; rfl; exact absurd (hiff.2 h) hc : inR W ⟨x0, y, x1, (y : Int) + 1⟩ q = false), Bool.or_false, getD_at (by rw [stR_length]; exact hq), stR_get]
/-- All runs pasted: the second buffer. -/
theorem stR_all {a b : List Px} {W H : Nat} (ha : a.length = H * W) (hb : b.length = H * W) (hW : 0 < W) : stR a b W (allR (diffM a b) W H) = b := by
  refine List.ext_getElem (by rw [stR_length, ha, hb]) fun q h1 h2 => ?_
  rw [stR_get, getD_at h2]
  cases h : (allR (diffM a b) W H).any (fun r => inR W r q) with
  | true => rw [if_pos rfl]
  | false =>
    rw [if_neg (by decide)]
    cases hm : diffM a b q with
    | false =>
      unfold diffM at hm
      have := of_decide_eq_false hm
      rw [getD_at h2] at this
      by_cases e : a.getD q px0 = b[q]
      · exact e
      · exact absurd e this
    | true =>
      have hq : q / W * W + q % W = q := by have := Nat.div_add_mod q W; rw [Nat.mul_comm] at this; exact this
      obtain ⟨r, hr, e1, e2, e3⟩ := runs_cov (ms := diffM a b) (W := W) (H := H) (x := q % W) (y := q / W) (Nat.mod_lt _ hW) (div_at (by omega)) (by rw [hq]; exact hm)
      have : (allR (diffM a b) W H).any (fun r => inR W r q) = true := List.any_eq_true.2 ⟨r, hr, by unfold inR; exact decide_eq_true ⟨e1, e2, e3⟩⟩
      rw [this] at h
      cases h
end Go.Proofs.Ytgikmcgoaihggaa
