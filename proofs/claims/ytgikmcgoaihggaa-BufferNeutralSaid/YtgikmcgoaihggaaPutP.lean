/- What Paste and BlendOver compute: lists. -/
import Derived.Test.YtgikmcgoaihggaaBAt
import Derived.Test.YtgikmcgoaihggaaCropP
set_option linter.unusedVariables false
set_option linter.unusedSimpArgs false
namespace Go.Proofs.Ytgikmcgoaihggaa

/-- Is the place q of a buffer W wide covered by one of sw × sh at (x, y)? -/
def cov (W : Nat) (sw sh x y : Int) (q : Nat) : Prop := (0 ≤ ((q % W : Nat) : Int) - x ∧ ((q % W : Nat) : Int) - x < sw) ∧ 0 ≤ ((q / W : Nat) : Int) - y ∧ ((q / W : Nat) : Int) - y < sh
instance (W : Nat) (sw sh x y : Int) (q : Nat) : Decidable (cov W sw sh x y q) := by unfold cov; infer_instance
/-- The pixel at place q. -/
def putG (f : Px → Px → Px) (d s : List Px) (W : Nat) (sw sh x y : Int) (q : Nat) : Px :=
  if cov W sw sh x y q then f (d.getD q px0) (s.getD ((((q / W : Nat) : Int) - y) * sw + (((q % W : Nat) : Int) - x)).toNat px0) else d.getD q px0
/-- The buffer whose first m places are done. -/
def putM (f : Px → Px → Px) (d s : List Px) (W : Nat) (sw sh x y : Int) (m : Nat) : List Px :=
  (List.range d.length).map fun q => if q < m then putG f d s W sw sh x y q else d.getD q px0
section
variable {f : Px → Px → Px} {d s : List Px} {W : Nat} {sw sh x y : Int} {m : Nat}
theorem putM_length : (putM f d s W sw sh x y m).length = d.length := by simp [putM]
theorem putM_get {q : Nat} (h : q < (putM f d s W sw sh x y m).length) : (putM f d s W sw sh x y m)[q] = if q < m then putG f d s W sw sh x y q else d.getD q px0 := by simp [putM]
theorem putM_zero : putM f d s W sw sh x y 0 = d := by
  refine List.ext_getElem putM_length fun i h1 h2 => ?_
  rw [putM_get, if_neg (by omega), List.getD_eq_getElem?_getD, List.getElem?_eq_getElem h2, Option.getD_some]
theorem putM_succ (h : m < d.length) : putM f d s W sw sh x y (m + 1) = (putM f d s W sw sh x y m).set m (putG f d s W sw sh x y m) := by
  refine List.ext_getElem (by simp [putM]) fun i h1 h2 => ?_
  rw [putM_get, List.getElem_set]
  by_cases e : m = i
  · subst e; rw [if_pos (by omega), if_pos rfl]
  · rw [if_neg e, putM_get]
    by_cases k : i < m
    · rw [if_pos (by omega), if_pos k]
    · rw [if_neg (by omega), if_neg k]
theorem putM_skip (h : ¬ cov W sw sh x y m) : putM f d s W sw sh x y (m + 1) = putM f d s W sw sh x y m := by
  refine List.ext_getElem (by simp [putM]) fun i h1 h2 => ?_
  rw [putM_get, putM_get]
  by_cases e : i = m
  · subst e
    rw [if_pos (by omega), if_neg (by omega)]
    unfold putG
    rw [if_neg h]
  · by_cases k : i < m
    · rw [if_pos (by omega), if_pos k]
    · rw [if_neg (by omega), if_neg k]
theorem putM_none {n k : Nat} (h : ∀ q, n ≤ q → q < n + k → ¬ cov W sw sh x y q) : putM f d s W sw sh x y (n + k) = putM f d s W sw sh x y n := by
  induction k with
  | zero => rfl
  | succ k ih => rw [← Nat.add_assoc, putM_skip (h _ (by omega) (by omega)), ih fun q h1 h2 => h q h1 (by omega)]
/-- Nothing is covered. -/
theorem putM_out {n : Nat} (h : ∀ q, q < n → ¬ cov W sw sh x y q) : putM f d s W sw sh x y n = d := by
  have e := putM_none (f := f) (d := d) (s := s) (n := 0) (k := n) (fun q _ h2 => h q (by omega))
  rw [Nat.zero_add, putM_zero] at e
  exact e
theorem putM_eq {q : Nat} (h : q < d.length) : (putM f d s W sw sh x y m).getD q px0 = if q < m then putG f d s W sw sh x y q else d.getD q px0 := by
  rw [List.getD_eq_getElem?_getD, List.getElem?_eq_getElem (by rw [putM_length]; exact h), Option.getD_some, putM_get]
theorem getD_at {l : List Px} {q : Nat} (h : q < l.length) : l.getD q px0 = l[q] := by
  rw [List.getD_eq_getElem?_getD, List.getElem?_eq_getElem h, Option.getD_some]
end
theorem cov_at {W i j : Nat} {sw sh x y : Int} (h : i < W) : cov W sw sh x y (j * W + i) ↔ (0 ≤ (i : Int) - x ∧ (i : Int) - x < sw) ∧ 0 ≤ (j : Int) - y ∧ (j : Int) - y < sh := by
  have e1 : (j * W + i) % W = i := by rw [Nat.mul_comm, Nat.mul_add_mod, Nat.mod_eq_of_lt h]
  have e2 : (j * W + i) / W = j := by rw [Nat.mul_comm, Nat.mul_add_div (by omega), Nat.div_eq_of_lt h, Nat.add_zero]
  unfold cov
  rw [e1, e2]
/-- The reference holds the place within a thousand: nothing changes. -/
theorem cov_clamp {W H q : Nat} {sw sh x y : Int} (hW : 1 ≤ W ∧ W ≤ 256) (hH : q / W < H ∧ H ≤ 256) (hs : sw ≤ 256 ∧ sh ≤ 256) : cov W sw sh (max (-1000) (min x 1000)) (max (-1000) (min y 1000)) q ↔ cov W sw sh x y q := by
  have h1 := Nat.mod_lt q (show 0 < W by omega)
  unfold cov
  generalize q % W = i at *
  generalize q / W = j at *
  constructor <;> intro h <;> (refine ⟨?_, ?_⟩ <;> omega)
theorem idx_lt2 {W H i j : Nat} (hi : i < W) (hj : j < H) : j * W + i < H * W := by
  have h := Nat.mul_le_mul_right W (show j + 1 ≤ H by omega)
  rw [Nat.add_mul, Nat.one_mul] at h
  omega
theorem div_at {W q H : Nat} (h : q < H * W) : q / W < H := Nat.div_lt_of_lt_mul (by rw [Nat.mul_comm]; exact h)
/-- The reference's place held within a thousand. -/
theorem putM_clamp {f : Px → Px → Px} {d s : List Px} {W H : Nat} {sw sh x y : Int} (hd : d.length = H * W) (hW : 1 ≤ W ∧ W ≤ 256) (hH : H ≤ 256) (hs : sw ≤ 256 ∧ sh ≤ 256) (m : Nat) :
    putM f d s W sw sh (max (-1000) (min x 1000)) (max (-1000) (min y 1000)) m = putM f d s W sw sh x y m := by
  refine List.ext_getElem (by rw [putM_length, putM_length]) fun q h1 h2 => ?_
  rw [putM_get, putM_get]
  have hq : q < H * W := by rw [putM_length, hd] at h1; exact h1
  have hc := cov_clamp (W := W) (H := H) (q := q) (sw := sw) (sh := sh) (x := x) (y := y) hW ⟨div_at hq, hH⟩ hs
  by_cases hm : q < m
  · rw [if_pos hm, if_pos hm]
    unfold putG
    by_cases h : cov W sw sh x y q
    · rw [if_pos h, if_pos (hc.2 h)]
      have h' := h
      unfold cov at h'
      have h3 := Nat.mod_lt q (show 0 < W by omega)
      have h4 := div_at hq
      have ex : max (-1000) (min x 1000) = x := by
        generalize q % W = c at *
        omega
      have ey : max (-1000) (min y 1000) = y := by
        generalize q / W = c at *
        omega
      rw [ex, ey]
    · rw [if_neg h, if_neg fun k => h (hc.1 k)]
  · rw [if_neg hm, if_neg hm]
/-- A segment of a list changed, its first i places done. -/
def segM (f : Px → Px → Px) (ds ss : List Px) (o i : Nat) : List Px := (List.range ds.length).map fun q => if o ≤ q ∧ q < o + i then f (ds.getD q px0) (ss.getD (q - o) px0) else ds.getD q px0
section
variable {f : Px → Px → Px} {ds ss : List Px} {o i : Nat}
theorem segM_length : (segM f ds ss o i).length = ds.length := by simp [segM]
theorem segM_get {q : Nat} (h : q < (segM f ds ss o i).length) : (segM f ds ss o i)[q] = if o ≤ q ∧ q < o + i then f (ds.getD q px0) (ss.getD (q - o) px0) else ds.getD q px0 := by simp [segM]
theorem segM_zero : segM f ds ss o 0 = ds := by
  refine List.ext_getElem segM_length fun q h1 h2 => ?_
  rw [segM_get, if_neg (by omega), getD_at h2]
theorem segM_succ (h : o + i < ds.length) : segM f ds ss o (i + 1) = (segM f ds ss o i).set (o + i) (f (ds.getD (o + i) px0) (ss.getD i px0)) := by
  refine List.ext_getElem (by simp [segM]) fun q h1 h2 => ?_
  rw [segM_get, List.getElem_set]
  by_cases e : o + i = q
  · subst e; rw [if_pos (by omega), if_pos rfl, show o + i - o = i by omega]
  · rw [if_neg e, segM_get]
    by_cases k : o ≤ q ∧ q < o + i
    · rw [if_pos (by omega), if_pos k]
    · rw [if_neg (by omega), if_neg k]
/-- The next place is still as it was. -/
theorem segM_next (h : o + i < ds.length) (h' : o + i < (segM f ds ss o i).length) : (segM f ds ss o i)[o + i] = ds[o + i] := by
  rw [segM_get, if_neg (by omega), getD_at h]
/-- A segment that takes the other list's pixels. -/
theorem segM_copy (h : o + ss.length ≤ ds.length) : segM (fun _ p => p) ds ss o ss.length = ds.take o ++ ss ++ ds.drop (o + ss.length) := by
  refine List.ext_getElem (by simp [segM]; omega) fun q h1 h2 => ?_
  rw [segM_get]
  have hq : q < ds.length := by rw [segM_length] at h1; exact h1
  by_cases k : o ≤ q ∧ q < o + ss.length
  · rw [if_pos k, List.getElem_append_left (by simp; omega), List.getElem_append_right (by simp; omega), getD_at (by omega)]
    congr 1
    simp; omega
  · rw [if_neg k, getD_at hq]
    by_cases k2 : q < o
    · rw [List.getElem_append_left (by simp; omega), List.getElem_append_left (by simp; omega), List.getElem_take]
    · rw [List.getElem_append_right (by simp; omega), List.getElem_drop]
      congr 1
      simp; omega
end
/-- One row done. -/
theorem seg_put {f : Px → Px → Px} {d s : List Px} {W H sw sh j a z : Nat} {x y : Int} (hd : d.length = H * W) (hs : s.length = sh * sw) (hj : j < H) (hv : 0 ≤ (j : Int) - y ∧ (j : Int) - y < sh)
    (ha : (a : Int) = max x 0) (hz : (z : Int) = min (x + sw) W) (haz : a < z) :
    segM f (putM f d s W sw sh x y (j * W)) (rowP s (((j : Int) - y).toNat * sw + ((a : Int) - x).toNat) (z - a)) (j * W + a) (z - a) = putM f d s W sw sh x y ((j + 1) * W) := by
  obtain ⟨v, hv'⟩ : ∃ v : Nat, (j : Int) - y = v := ⟨((j : Int) - y).toNat, by omega⟩
  obtain ⟨u, hu'⟩ : ∃ u : Nat, (a : Int) - x = u := ⟨((a : Int) - x).toNat, by omega⟩
  rw [hv', hu']
  simp only [Int.toNat_natCast]
  have hvs : v < sh := by omega
  have hin : v * sw + u + (z - a) ≤ s.length := by
    rw [hs, show v * sw + u + (z - a) = v * sw + (u + (z - a)) by omega]
    have h := Nat.mul_le_mul_right sw (show v + 1 ≤ sh by omega)
    rw [Nat.add_mul, Nat.one_mul] at h
    omega
  have hjW : (j + 1) * W = j * W + W := by rw [Nat.add_mul, Nat.one_mul]
  refine List.ext_getElem (by rw [segM_length, putM_length, putM_length]) fun q h1 h2 => ?_
  have hq : q < d.length := by rw [putM_length] at h2; exact h2
  rw [segM_get, putM_eq hq, putM_get]
  by_cases k : j * W + a ≤ q ∧ q < j * W + a + (z - a)
  · rw [if_pos k, if_neg (by omega), if_pos (by omega)]
    obtain ⟨c, rfl⟩ : ∃ c, q = j * W + c := ⟨q - j * W, by omega⟩
    have hcW : c < W := by omega
    unfold putG
    rw [if_pos ((cov_at hcW).2 (by omega))]
    congr 1
    have e1 : (j * W + c) % W = c := by rw [Nat.mul_comm, Nat.mul_add_mod, Nat.mod_eq_of_lt hcW]
    have e2 : (j * W + c) / W = j := by rw [Nat.mul_comm, Nat.mul_add_div (by omega), Nat.div_eq_of_lt hcW, Nat.add_zero]
    rw [e1, e2, hv', show ((c : Nat) : Int) - x = ((u + (c - a) : Nat) : Int) by omega]
    have e3 : ((v : Int) * (sw : Int) + ((u + (c - a) : Nat) : Int)).toNat = v * sw + u + (c - a) := by
      have : ((v * sw : Nat) : Int) = (v : Int) * (sw : Int) := by simp
      omega
    rw [e3, show j * W + c - (j * W + a) = c - a by omega, getD_at (by rw [rowP_length hin]; omega), rowP_get hin, getD_at (by omega)]
  · rw [if_neg k]
    by_cases k2 : q < j * W
    · rw [if_pos k2, if_pos (by omega)]
    · rw [if_neg k2]
      by_cases k3 : q < (j + 1) * W
      · rw [if_pos k3]
        obtain ⟨c, rfl⟩ : ∃ c, q = j * W + c := ⟨q - j * W, by omega⟩
        unfold putG
        rw [if_neg fun h => by have := (cov_at (by omega)).1 h; omega]
      · rw [if_neg k3]
/-- Rows that are not met change nothing. -/
theorem putM_rows {f : Px → Px → Px} {d s : List Px} {W j k : Nat} {sw sh x y : Int} (hW : 0 < W) (h : ∀ r, j ≤ r → r < j + k → ¬ (0 ≤ (r : Int) - y ∧ (r : Int) - y < sh)) :
    putM f d s W sw sh x y ((j + k) * W) = putM f d s W sw sh x y (j * W) := by
  rw [Nat.add_mul]
  refine putM_none fun q h1 h2 hc => ?_
  have e1 : j ≤ q / W := (Nat.le_div_iff_mul_le hW).2 h1
  have e2 : q / W < j + k := Nat.div_lt_of_lt_mul (by rw [Nat.mul_comm, Nat.add_mul]; exact h2)
  exact h _ e1 e2 hc.2
end Go.Proofs.Ytgikmcgoaihggaa
