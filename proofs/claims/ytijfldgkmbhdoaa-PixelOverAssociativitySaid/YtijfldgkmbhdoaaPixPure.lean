/- Blending, as numbers: associative up to 2, exactly where a pixel is opaque or zero. -/
import Derived.Test.YtijfldgkmbhdoaaPix
set_option linter.unusedVariables false
set_option linter.unusedSimpArgs false
namespace Go.Proofs.Ytijfldgkmbhdoaa

/-- One component of s over d, where s has the alpha al. -/
def ov (s d al : Int) : Int := s + prod8 d (255 - al)

theorem ov_rng {s d al dl : Int} (hs : 0 ≤ s ∧ s ≤ al) (ha : al ≤ 255) (hd : 0 ≤ d ∧ d ≤ dl) (hl : dl ≤ 255) : 0 ≤ ov s d al ∧ ov s d al ≤ ov al dl al ∧ ov al dl al ≤ 255 := by
  have h1 := prod8_le (a := d) (b := 255 - al) ⟨hd.1, by omega⟩ (by omega)
  have h2 := prod8_le (a := dl) (b := 255 - al) ⟨by omega, hl⟩ (by omega)
  have h3 : d * (255 - al) ≤ dl * (255 - al) := Int.mul_le_mul_of_nonneg_right hd.2 (by omega)
  unfold ov prod8 at *
  omega

/-- 255 less the alpha of a over b is the rounded product of what the two let through. -/
theorem through {al bl : Int} : 255 - ov al bl al = prod8 (255 - bl) (255 - al) := by
  unfold ov prod8
  have e : (255 - bl) * (255 - al) = 255 * (255 - al) - bl * (255 - al) := by rw [Int.sub_mul]
  rw [e]
  generalize bl * (255 - al) = t
  omega

theorem near_ov {a b c al bl : Int} (ha : 0 ≤ a) (hal : 0 ≤ al ∧ al ≤ 255) (hb : 0 ≤ b) (hbl : b ≤ bl ∧ bl ≤ 255) (hc : 0 ≤ c ∧ c ≤ 255) :
    ov a (ov b c bl) al - ov (ov a b al) c (ov al bl al) ≤ 2 ∧ ov (ov a b al) c (ov al bl al) - ov a (ov b c bl) al ≤ 2 := by
  have ht := through (al := al) (bl := bl)
  have e1 : ov (ov a b al) c (ov al bl al) = a + prod8 b (255 - al) + prod8 c (prod8 (255 - bl) (255 - al)) := by
    rw [← ht]; rfl
  rw [e1]
  show a + prod8 (b + prod8 c (255 - bl)) (255 - al) - _ ≤ 2 ∧ _ - (a + prod8 (b + prod8 c (255 - bl)) (255 - al)) ≤ 2
  generalize hα : 255 - al = α
  generalize hβ : 255 - bl = β
  have a0 : 0 ≤ α := by omega
  have b0 : 0 ≤ β := by omega
  have hu := prod8_rng (a := c) (b := β) hc (by omega)
  have hv := prod8_rng (a := β) (b := α) (by omega) (by omega)
  generalize hU : prod8 c β = u
  generalize hV : prod8 β α = v
  unfold prod8 at hU hV
  have u1 : 255 * u ≤ c * β + 127 := by omega
  have u2 : c * β ≤ 255 * u + 127 := by omega
  have v1 : 255 * v ≤ β * α + 127 := by omega
  have v2 : β * α ≤ 255 * v + 127 := by omega
  have m1 : 255 * u * α ≤ (c * β + 127) * α := Int.mul_le_mul_of_nonneg_right u1 a0
  have m2 : c * β * α ≤ (255 * u + 127) * α := Int.mul_le_mul_of_nonneg_right u2 a0
  have m3 : c * (255 * v) ≤ c * (β * α + 127) := Int.mul_le_mul_of_nonneg_left v1 hc.1
  have m4 : c * (β * α) ≤ c * (255 * v + 127) := Int.mul_le_mul_of_nonneg_left v2 hc.1
  have n1 : 255 * u * α = 255 * (u * α) := Int.mul_assoc _ _ _
  have n2 : (c * β + 127) * α = c * β * α + 127 * α := Int.add_mul _ _ _
  have n3 : (255 * u + 127) * α = 255 * (u * α) + 127 * α := by rw [Int.add_mul, n1]
  have n4 : c * (255 * v) = 255 * (c * v) := by rw [Int.mul_left_comm]
  have n5 : c * (β * α + 127) = c * β * α + c * 127 := by rw [Int.mul_add, Int.mul_assoc]
  have n6 : c * (β * α) = c * β * α := by rw [Int.mul_assoc]
  have n7 : c * (255 * v + 127) = 255 * (c * v) + c * 127 := by rw [Int.mul_add, n4]
  have n8 : (b + u) * α = b * α + u * α := Int.add_mul _ _ _
  unfold prod8
  rw [n8]
  rw [n1, n2] at m1
  rw [n3] at m2
  rw [n4, n5] at m3
  rw [n6, n7] at m4
  generalize u * α = p at *
  generalize c * v = q at *
  generalize c * β * α = r at *
  generalize b * α = t at *
  clear n1 n2 n3 n4 n5 n6 n7 n8 hu hv u1 u2 v1 v2 hU hV
  omega

theorem prod8_zero (b : Int) : prod8 0 b = 0 := by unfold prod8; rw [Int.zero_mul]; decide
theorem prod8_zero' (b : Int) : prod8 b 0 = 0 := by unfold prod8; rw [Int.mul_zero]; decide
theorem prod8_full (b : Int) : prod8 b 255 = b := by unfold prod8; omega
theorem prod8_full' (b : Int) : prod8 255 b = b := by unfold prod8; omega

theorem ov_opaque (s d : Int) : ov s d 255 = s := by unfold ov; rw [Int.sub_self, prod8_zero']; omega
theorem ov_zero (d : Int) : ov 0 d 0 = d := by unfold ov; rw [show (255 : Int) - 0 = 255 by decide, prod8_full]; omega
theorem ov_on_zero (s al : Int) : ov s 0 al = s := by unfold ov; rw [prod8_zero]; omega
/-- The first pixel opaque. -/
theorem exact_a (a b c bl : Int) : ov a (ov b c bl) 255 = ov (ov a b 255) c (ov 255 bl 255) := by
  rw [ov_opaque, ov_opaque, ov_opaque, ov_opaque]
/-- The second pixel opaque. -/
theorem exact_b (a b c al : Int) (h : 0 ≤ al ∧ al ≤ 255) : ov a (ov b c 255) al = ov (ov a b al) c (ov al 255 al) := by
  have e : ov al 255 al = 255 := by unfold ov; rw [prod8_full']; omega
  rw [ov_opaque, e, ov_opaque]
theorem exact_a0 (b c bl : Int) : ov 0 (ov b c bl) 0 = ov (ov 0 b 0) c (ov 0 bl 0) := by rw [ov_zero, ov_zero, ov_zero]
theorem exact_b0 (a c al : Int) : ov a (ov 0 c 0) al = ov (ov a 0 al) c (ov al 0 al) := by rw [ov_zero, ov_on_zero, ov_on_zero]
theorem exact_c0 (a b al bl : Int) : ov a (ov b 0 bl) al = ov (ov a b al) 0 (ov al bl al) := by rw [ov_on_zero, ov_on_zero]
end Go.Proofs.Ytijfldgkmbhdoaa
