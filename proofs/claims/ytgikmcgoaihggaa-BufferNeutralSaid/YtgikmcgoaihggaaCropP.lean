/- A row's part; what Crop computes. -/
import Derived.Test.YtgikmcgoaihggaaRect
import Derived.Test.YtgikmcgoaihggaaBDiffW
set_option linter.unusedVariables false
set_option linter.unusedSimpArgs false
namespace Go.Proofs.Ytgikmcgoaihggaa
open Go.RowKit Go.Sort
attribute [local go_sem ↓] Go.wp_at_zero Go.wp_at_succ

/-- The pixels of a row from one column to another. -/
def rowP (ps : List Px) (i n : Nat) : List Px := (ps.drop i).take n
theorem rowP_length {ps : List Px} {i n : Nat} (h : i + n ≤ ps.length) : (rowP ps i n).length = n := by unfold rowP; rw [List.length_take, List.length_drop]; omega
theorem rowP_get {ps : List Px} {i n j : Nat} (h : i + n ≤ ps.length) (hj : j < (rowP ps i n).length) : (rowP ps i n)[j] = ps[i + j]'(by rw [rowP_length h] at hj; omega) := by
  simp only [rowP, List.getElem_take, List.getElem_drop]
theorem Rdp.part {w : World} {b off : Nat} {ps : List Px} {i n : Nat} (h : Rdp w (some ⟨b, off, none⟩) ps) (hi : i + n ≤ ps.length) : Rdp w (some ⟨b, off + i * 4, none⟩) (rowP ps i n) := by
  intro j hj
  have hj' := hj
  rw [rowP_length hi] at hj'
  obtain ⟨b', off', e, hl, c0, c1, c2, c3⟩ := h (i + j) (by omega)
  simp only [Option.some.injEq, Addr.mk.injEq, and_true] at e
  obtain ⟨rfl, rfl⟩ := e
  rw [rowP_get hi hj]
  rw [show off + (i + j) * 4 = off + i * 4 + j * 4 by omega] at c0 c1 c2 c3
  exact ⟨_, _, rfl, hl, c0, c1, c2, c3⟩
def cropUp (ps : List Px) (W x0 n y0 k : Nat) : List Px := (List.range k).flatMap fun q => rowP ps ((y0 + q) * W + x0) n
theorem cropUp_succ (ps : List Px) (W x0 n y0 k : Nat) : cropUp ps W x0 n y0 (k + 1) = cropUp ps W x0 n y0 k ++ rowP ps ((y0 + k) * W + x0) n := by
  unfold cropUp
  rw [List.range_succ, List.flatMap_append]
  simp
theorem crop_in {W H y x0 n : Nat} (hy : y < H) (hx : x0 + n ≤ W) : y * W + x0 + n ≤ H * W := by
  have h := Nat.mul_le_mul_right W (show y + 1 ≤ H by omega)
  rw [Nat.add_mul, Nat.one_mul] at h
  omega
theorem cropUp_length {ps : List Px} {W H x0 n y0 : Nat} (hp : ps.length = H * W) (hx : x0 + n ≤ W) : ∀ k, y0 + k ≤ H → (cropUp ps W x0 n y0 k).length = k * n
  | 0, _ => by simp [cropUp]
  | k + 1, h => by
    rw [cropUp_succ, List.length_append, cropUp_length hp hx k (by omega), rowP_length (by rw [hp]; exact crop_in (by omega) hx), Nat.add_mul]
    omega
/-- The error of Crop, or 0. -/
def cropE (w h : Int) (ps : List Px) (r : Rc) : Int := if bufB w h ps = true then (if emB r = false ∧ 0 ≤ r.x0 ∧ 0 ≤ r.y0 ∧ r.x1 ≤ w ∧ r.y1 ≤ h then 0 else 6) else 15
def cropB (w h : Int) (ps : List Px) (r : Rc) : Int × Int × List Px :=
  if cropE w h ps r = 0 then (r.x1 - r.x0, r.y1 - r.y0, cropUp ps w.toNat r.x0.toNat (r.x1 - r.x0).toNat r.y0.toNat (r.y1 - r.y0).toNat) else (0, 0, [])
/-- A buffer and an error. -/
def BufE (w : World) (B : Int × Int × List Px) (E : Int) (e : Ending) (w' : World) : Prop :=
  ∃ v, e = .returned (.tuple #[bufv B.1 B.2.1 v, .int .i64 E]) ∧ Below w.heap.size w w' ∧ OwnP w' w.heap.size v B.2.2
theorem crop_bad {w h : Int} {ps : List Px} (r : Rc) (k : bufB w h ps = false) : cropE w h ps r = 15 ∧ cropB w h ps r = (0, 0, []) := by
  have e : cropE w h ps r = 15 := by unfold cropE; rw [k]; rfl
  exact ⟨e, by unfold cropB; rw [e]; rfl⟩
theorem crop_out {w h : Int} {ps : List Px} {r : Rc} (k : bufB w h ps = true) (k2 : ¬ (emB r = false ∧ 0 ≤ r.x0 ∧ 0 ≤ r.y0 ∧ r.x1 ≤ w ∧ r.y1 ≤ h)) : cropE w h ps r = 6 ∧ cropB w h ps r = (0, 0, []) := by
  have e : cropE w h ps r = 6 := by unfold cropE; rw [if_pos k, if_neg k2]
  exact ⟨e, by unfold cropB; rw [e]; rfl⟩
theorem crop_ok {w h : Int} {ps : List Px} {r : Rc} (k : bufB w h ps = true) (k2 : emB r = false ∧ 0 ≤ r.x0 ∧ 0 ≤ r.y0 ∧ r.x1 ≤ w ∧ r.y1 ≤ h) :
    cropE w h ps r = 0 ∧ cropB w h ps r = (r.x1 - r.x0, r.y1 - r.y0, cropUp ps w.toNat r.x0.toNat (r.x1 - r.x0).toNat r.y0.toNat (r.y1 - r.y0).toNat) := by
  have e : cropE w h ps r = 0 := by unfold cropE; rw [if_pos k, if_pos k2]
  exact ⟨e, by unfold cropB; rw [if_pos e]⟩
set_option maxHeartbeats 1000000 in
theorem brow_any (W y a z : Nat) (bh : Int) (b off : Nat) (n c : Nat) (w : World) (hW : W ≤ 256) (hy : y ≤ 256) (haz : a < z) (hz : y * W + z ≤ n) (hn : n ≤ c ∧ c ≤ 9223372036854775807) :
    Calls Try.prog 57 #[bufv W bh (.slice (some ⟨b, off, none⟩) n c), .int .i64 y, .int .i64 a, .int .i64 z] w fun e w' => e = .returned (.slice (some ⟨b, off + (y * W + a) * 4, none⟩) (z - a) (z - a)) ∧ Below w.heap.size w w' := by
  have hm := Nat.mul_le_mul hy hW
  obtain ⟨i, hi⟩ : ∃ i, y * W = i := ⟨_, rfl⟩
  rw [hi] at hz hm ⊢
  have e1 : (y : Int) * (W : Int) = (i : Int) := by rw [← hi]; simp
  have hia : ¬ i + z = i + a := by omega
  have haz' : ¬ z = a := by omega
  obtain ⟨hn1, hn2⟩ := hn
  clear hi hy hW
  go_enter Try.func57, Try.ntmps57
  go_wp2_with fail
  go_ret
  exact ⟨by rw [show z - a = i + z - (i + a) by omega]; rfl, by (with_reducible repeat (first | assumption | exact Below.refl _ _ | refine Below.setCell ?_ (by first | omega | (simp; done) | (simp; omega)) _ | refine Below.drew ?_ | refine bdrewN ?_ _ | refine Below.alloc ?_ (by first | omega | (simp; done) | (simp; omega)) _))⟩
end Go.Proofs.Ytgikmcgoaihggaa
