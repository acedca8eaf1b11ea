/- What Decode computes. -/
import Derived.Test.YtgikmcgoaihggaaBVal
import Derived.Test.YtgikmcgoaihggaaRdS
set_option linter.unusedVariables false
set_option linter.unusedSimpArgs false
namespace Go.Proofs.Ytgikmcgoaihggaa
open Go.RowKit

def clampP (p : Px) : Px := ⟨min p.r p.a, min p.g p.a, min p.b p.a, p.a⟩
def decP (f : Int) (zs : List Int) (k : Nat) : Px := clampP ⟨zs.getD (k + 2) 0, zs.getD (k + 1) 0, zs.getD k 0, if f = 2 then 255 else zs.getD (k + 3) 0⟩
def decRow (f : Int) (s : Nat) (zs : List Int) (j i : Nat) : List Px := (List.range i).map fun x => decP f zs (j * s + 4 * x)
def decUp (f : Int) (s W : Nat) (zs : List Int) (j i : Nat) : List Px := (List.range j).flatMap (fun y => decRow f s zs y W) ++ decRow f s zs j i
theorem decUp_zero (f : Int) (s W : Nat) (zs : List Int) : decUp f s W zs 0 0 = [] := rfl
theorem decUp_one (f : Int) (s W : Nat) (zs : List Int) (j i : Nat) : decUp f s W zs j (i + 1) = decUp f s W zs j i ++ [decP f zs (j * s + 4 * i)] := by
  unfold decUp decRow
  rw [List.range_succ, List.map_append, List.append_assoc]
  rfl
theorem decUp_row (f : Int) (s W : Nat) (zs : List Int) (j : Nat) : decUp f s W zs (j + 1) 0 = decUp f s W zs j W := by
  unfold decUp
  rw [List.range_succ, List.flatMap_append]
  simp [decRow]
theorem decUp_length (f : Int) (s W : Nat) (zs : List Int) (j i : Nat) : (decUp f s W zs j i).length = j * W + i := by
  unfold decUp decRow
  rw [List.length_append, List.length_map, List.length_range, List.length_flatMap]
  congr 1
  induction j with
  | zero => simp
  | succ j ih => rw [List.range_succ, List.map_append, List.sum_append, ih]; simp; rw [Nat.add_mul]; omega
theorem dec_bound {s W H n j i : Nat} (hs : 4 * W ≤ s) (hn : s ≤ n / H) (hH : 1 ≤ H) (hj : j < H) (hi : i < W) : j * s + 4 * i + 3 < n := by
  have h1 : s * H ≤ n := Nat.le_trans (Nat.mul_le_mul_right H hn) (Nat.div_mul_le_self n H)
  have h2 : (j + 1) * s ≤ H * s := Nat.mul_le_mul_right s (by omega)
  rw [Nat.mul_comm H s, Nat.add_mul, Nat.one_mul] at h2
  omega
theorem rows_bound {W H j i : Nat} (hW : W ≤ 256) (hH : H ≤ 256) (hj : j < H) (hi : i ≤ W) : j * W + i ≤ 65536 := by
  have h := Nat.mul_le_mul (show j + 1 ≤ 256 by omega) hW
  rw [Nat.add_mul, Nat.one_mul] at h
  omega
theorem decP_at {f : Int} {zs : List Int} {k : Nat} (h : k + 3 < zs.length) : decP f zs k = clampP ⟨zs[k + 2], zs[k + 1], zs[k], if f = 2 then 255 else zs[k + 3]⟩ := by
  unfold decP
  simp only [List.getD_eq_getElem?_getD]
  rw [List.getElem?_eq_getElem (by omega), List.getElem?_eq_getElem (by omega), List.getElem?_eq_getElem (by omega), List.getElem?_eq_getElem (by omega)]
  rfl
/-- The error of Decode, or 0. -/
def decE (f w h st : Int) (n : Nat) : Int :=
  if f ≠ 1 ∧ f ≠ 2 then 2 else if ¬ ((1 ≤ w ∧ w ≤ 256) ∧ (1 ≤ h ∧ h ≤ 256)) then 6 else if st < 4 * w ∨ st % 4 ≠ 0 then 15 else if (n : Int) / h < st then 4 else 0
theorem decE_zero {f w h st : Int} {n : Nat} (k : decE f w h st n = 0) : (f = 1 ∨ f = 2) ∧ (1 ≤ w ∧ w ≤ 256) ∧ (1 ≤ h ∧ h ≤ 256) ∧ 4 * w ≤ st ∧ st % 4 = 0 ∧ st ≤ (n : Int) / h := by
  unfold decE at k
  split at k
  · cases k
  · split at k
    · cases k
    · split at k
      · cases k
      · split at k
        · cases k
        · omega
end Go.Proofs.Ytgikmcgoaihggaa
