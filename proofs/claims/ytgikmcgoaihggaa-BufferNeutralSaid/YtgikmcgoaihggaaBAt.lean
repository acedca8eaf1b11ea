/- At, of the program and of the reference. -/
import Derived.Test.YtgikmcgoaihggaaBVal
set_option linter.unusedVariables false
set_option linter.unusedSimpArgs false
namespace Go.Proofs.Ytgikmcgoaihggaa
open Go.RowKit Go.Sort
attribute [local go_sem ↓] Go.wp_at_zero Go.wp_at_succ

def px0 : Px := ⟨0, 0, 0, 0⟩
/-- May the pixel at (x, y) be read? -/
def atB (w h : Int) (n : Nat) (x y : Int) : Bool := szB w && szB h && decide (0 ≤ x ∧ x < w) && decide (0 ≤ y ∧ y < h) && decide (y * w + x < n)
def atP (w h : Int) (ps : List Px) (x y : Int) : Px := if atB w h ps.length x y = true then ps.getD (y * w + x).toNat px0 else px0
theorem atB_iff (w h : Int) (n : Nat) (x y : Int) : atB w h n x y = true ↔ (1 ≤ w ∧ w ≤ 256) ∧ (1 ≤ h ∧ h ≤ 256) ∧ (0 ≤ x ∧ x < w) ∧ (0 ≤ y ∧ y < h) ∧ y * w + x < n := by
  unfold atB
  rw [Bool.and_eq_true, Bool.and_eq_true, Bool.and_eq_true, Bool.and_eq_true, szB_iff, szB_iff, decide_eq_true_iff, decide_eq_true_iff, decide_eq_true_iff, and_assoc, and_assoc, and_assoc]
theorem at_mul {w h x y : Int} (hw : 1 ≤ w ∧ w ≤ 256) (hh : 1 ≤ h ∧ h ≤ 256) (hx : 0 ≤ x ∧ x < w) (hy : 0 ≤ y ∧ y < h) : 0 ≤ y * w ∧ y * w ≤ 65536 ∧ y * w + x < w * h := by
  obtain ⟨a, rfl⟩ := Int.eq_ofNat_of_zero_le (show 0 ≤ w by omega)
  obtain ⟨b, rfl⟩ := Int.eq_ofNat_of_zero_le (show 0 ≤ y by omega)
  obtain ⟨k, rfl⟩ := Int.eq_ofNat_of_zero_le (show 0 ≤ h by omega)
  have h1 := Nat.mul_le_mul (show b ≤ 256 by omega) (show a ≤ 256 by omega)
  have h2 := Nat.mul_le_mul (show b + 1 ≤ k by omega) (Nat.le_refl a)
  rw [Nat.add_mul, Nat.one_mul, Nat.mul_comm k a] at h2
  have e : ((b * a : Nat) : Int) = (b : Int) * (a : Int) := by simp
  have e2 : ((a * k : Nat) : Int) = (a : Int) * (k : Int) := by simp
  omega
set_option maxHeartbeats 2000000 in
theorem bat_any (bw bh x y : Int) (A : Option Addr) (ps : List Px) (c : Nat) (w : World) (h : Rdp w A ps) (hl : ps.length ≤ 9223372036854775807) :
    Calls Try.prog 27 #[bufv bw bh (.slice A ps.length c), .int .i64 x, .int .i64 y] w fun e w' => e = .returned (px (atP bw bh ps x y).r (atP bw bh ps x y).g (atP bw bh ps x y).b (atP bw bh ps x y).a) ∧ Below w.heap.size w w' := by
  obtain ⟨n, hn⟩ : ∃ n, ps.length = n := ⟨_, rfl⟩
  have hs1 := fun W => bsize_any bw W
  have hs2 := fun W => bsize_any bh W
  by_cases hat : atB bw bh n x y = true
  · obtain ⟨hw, hh, hx, hy, hi⟩ := (atB_iff bw bh n x y).1 hat
    have hm := at_mul hw hh hx hy
    rw [(szB_iff bw).2 hw] at hs1
    rw [(szB_iff bh).2 hh] at hs2
    have HS1 := Lib.hid hs1
    have HS2 := Lib.hid hs2
    obtain ⟨i, hii⟩ : ∃ i : Nat, y * bw + x = i := Int.eq_ofNat_of_zero_le (by omega)
    have hin : i < n := by omega
    have e1 : atP bw bh ps x y = ps[i]'(by omega) := by
      have hat' : atB bw bh ps.length x y = true := by rw [hn]; exact hat
      unfold atP
      rw [if_pos hat', hii, Int.toNat_natCast, List.getD_eq_getElem?_getD, List.getElem?_eq_getElem (by omega), Option.getD_some]
    rw [e1]
    obtain ⟨b, off, hA, hbl, c0, c1, c2, c3⟩ := h i (by omega)
    obtain ⟨X, hX⟩ : ∃ X, ps[i]'(by omega) = X := ⟨_, rfl⟩
    rw [hX] at c0 c1 c2 c3 ⊢
    obtain ⟨xr, xg, xb, xa⟩ := X
    simp only at c0 c1 c2 c3 ⊢
    rw [hn] at hl ⊢
    have ei : i = (y * bw + x).toNat := by omega
    have hm1 : y * bw ≤ 65536 := hm.2.1
    have hm0 : 0 ≤ y * bw := hm.1
    have hin' : y * bw + x < n := hi
    rw [ei] at c0 c1 c2 c3
    subst hA
    clear hat hs1 hs2 hX e1 hn h hin hi hm hii ei
    go_enter Try.func27, Try.ntmps27
    go_wp2_with fail
    refine (HS1.out _).mono ?_; rintro e w' ⟨rfl, rfl⟩
    go_wp2_with fail
    refine (HS2.out _).mono ?_; rintro e w' ⟨rfl, rfl⟩
    go_wp2_with fail
    refine bodyPost_ret (v := px xr xg xb xa) (by simp [results, Try.results27, go_sem]) rfl ⟨rfl, by (with_reducible repeat (first | assumption | exact Below.refl _ _ | refine Below.setCell ?_ (by first | omega | (simp; done) | (simp; omega)) _ | refine Below.drew ?_ | refine bdrewN ?_ _ | refine Below.alloc ?_ (by first | omega | (simp; done) | (simp; omega)) _))⟩
  · have hat' : ¬ atB bw bh ps.length x y = true := by rw [hn]; exact hat
    have e1 : atP bw bh ps x y = px0 := by unfold atP; rw [if_neg hat']
    rw [e1, hn]
    rw [hn] at hl
    rw [atB_iff] at hat
    clear e1 hat' hn h
    show Calls Try.prog 27 _ w fun e w' => e = .returned (px 0 0 0 0) ∧ Below w.heap.size w w'
    cases k1 : szB bw with
    | false =>
      rw [k1] at hs1
      have HS1 := Lib.hid hs1
      clear hat k1 hs1 hs2
      go_enter Try.func27, Try.ntmps27
      go_wp2_with fail
      refine (HS1.out _).mono ?_; rintro e w' ⟨rfl, rfl⟩
      go_wp2_with fail
      (refine bodyPost_ret (v := px 0 0 0 0) (by simp [results, Try.results27, go_sem]) rfl ⟨rfl, by (with_reducible repeat (first | assumption | exact Below.refl _ _ | refine Below.setCell ?_ (by first | omega | (simp; done) | (simp; omega)) _ | refine Below.drew ?_ | refine bdrewN ?_ _ | refine Below.alloc ?_ (by first | omega | (simp; done) | (simp; omega)) _))⟩)
    | true =>
      have hw := (szB_iff bw).1 k1
      rw [k1] at hs1
      have HS1 := Lib.hid hs1
      clear k1 hs1
      cases k2 : szB bh with
      | false =>
        rw [k2] at hs2
        have HS2 := Lib.hid hs2
        clear hat k2 hs2
        go_enter Try.func27, Try.ntmps27
        go_wp2_with fail
        refine (HS1.out _).mono ?_; rintro e w' ⟨rfl, rfl⟩
        go_wp2_with fail
        refine (HS2.out _).mono ?_; rintro e w' ⟨rfl, rfl⟩
        go_wp2_with fail
        (refine bodyPost_ret (v := px 0 0 0 0) (by simp [results, Try.results27, go_sem]) rfl ⟨rfl, by (with_reducible repeat (first | assumption | exact Below.refl _ _ | refine Below.setCell ?_ (by first | omega | (simp; done) | (simp; omega)) _ | refine Below.drew ?_ | refine bdrewN ?_ _ | refine Below.alloc ?_ (by first | omega | (simp; done) | (simp; omega)) _))⟩)
      | true =>
        have hh := (szB_iff bh).1 k2
        rw [k2] at hs2
        have HS2 := Lib.hid hs2
        clear k2 hs2
        by_cases h1 : x < 0
        · clear hat
          go_enter Try.func27, Try.ntmps27
          go_wp2_with fail
          refine (HS1.out _).mono ?_; rintro e w' ⟨rfl, rfl⟩
          go_wp2_with fail
          refine (HS2.out _).mono ?_; rintro e w' ⟨rfl, rfl⟩
          go_wp2_with fail
          (refine bodyPost_ret (v := px 0 0 0 0) (by simp [results, Try.results27, go_sem]) rfl ⟨rfl, by (with_reducible repeat (first | assumption | exact Below.refl _ _ | refine Below.setCell ?_ (by first | omega | (simp; done) | (simp; omega)) _ | refine Below.drew ?_ | refine bdrewN ?_ _ | refine Below.alloc ?_ (by first | omega | (simp; done) | (simp; omega)) _))⟩)
        · by_cases h2 : y < 0
          · clear hat
            go_enter Try.func27, Try.ntmps27
            go_wp2_with fail
            refine (HS1.out _).mono ?_; rintro e w' ⟨rfl, rfl⟩
            go_wp2_with fail
            refine (HS2.out _).mono ?_; rintro e w' ⟨rfl, rfl⟩
            go_wp2_with fail
            (refine bodyPost_ret (v := px 0 0 0 0) (by simp [results, Try.results27, go_sem]) rfl ⟨rfl, by (with_reducible repeat (first | assumption | exact Below.refl _ _ | refine Below.setCell ?_ (by first | omega | (simp; done) | (simp; omega)) _ | refine Below.drew ?_ | refine bdrewN ?_ _ | refine Below.alloc ?_ (by first | omega | (simp; done) | (simp; omega)) _))⟩)
          · by_cases h3 : bw ≤ x
            · clear hat
              go_enter Try.func27, Try.ntmps27
              go_wp2_with fail
              refine (HS1.out _).mono ?_; rintro e w' ⟨rfl, rfl⟩
              go_wp2_with fail
              refine (HS2.out _).mono ?_; rintro e w' ⟨rfl, rfl⟩
              go_wp2_with fail
              (refine bodyPost_ret (v := px 0 0 0 0) (by simp [results, Try.results27, go_sem]) rfl ⟨rfl, by (with_reducible repeat (first | assumption | exact Below.refl _ _ | refine Below.setCell ?_ (by first | omega | (simp; done) | (simp; omega)) _ | refine Below.drew ?_ | refine bdrewN ?_ _ | refine Below.alloc ?_ (by first | omega | (simp; done) | (simp; omega)) _))⟩)
            · by_cases h4 : bh ≤ y
              · clear hat
                go_enter Try.func27, Try.ntmps27
                go_wp2_with fail
                refine (HS1.out _).mono ?_; rintro e w' ⟨rfl, rfl⟩
                go_wp2_with fail
                refine (HS2.out _).mono ?_; rintro e w' ⟨rfl, rfl⟩
                go_wp2_with fail
                (refine bodyPost_ret (v := px 0 0 0 0) (by simp [results, Try.results27, go_sem]) rfl ⟨rfl, by (with_reducible repeat (first | assumption | exact Below.refl _ _ | refine Below.setCell ?_ (by first | omega | (simp; done) | (simp; omega)) _ | refine Below.drew ?_ | refine bdrewN ?_ _ | refine Below.alloc ?_ (by first | omega | (simp; done) | (simp; omega)) _))⟩)
              · have hm := at_mul hw hh (show 0 ≤ x ∧ x < bw by omega) (show 0 ≤ y ∧ y < bh by omega)
                have h5 : (n : Int) ≤ y * bw + x := by
                  by_cases h6 : y * bw + x < n
                  · exact absurd ⟨hw, hh, ⟨by omega, by omega⟩, ⟨by omega, by omega⟩, h6⟩ hat
                  · omega
                clear hat
                go_enter Try.func27, Try.ntmps27
                go_wp2_with fail
                refine (HS1.out _).mono ?_; rintro e w' ⟨rfl, rfl⟩
                go_wp2_with fail
                refine (HS2.out _).mono ?_; rintro e w' ⟨rfl, rfl⟩
                go_wp2_with fail
                (refine bodyPost_ret (v := px 0 0 0 0) (by simp [results, Try.results27, go_sem]) rfl ⟨rfl, by (with_reducible repeat (first | assumption | exact Below.refl _ _ | refine Below.setCell ?_ (by first | omega | (simp; done) | (simp; omega)) _ | refine Below.drew ?_ | refine bdrewN ?_ _ | refine Below.alloc ?_ (by first | omega | (simp; done) | (simp; omega)) _))⟩)
set_option maxHeartbeats 2000000 in
theorem vat_any (bw bh x y : Int) (A : Option Addr) (ps : List Px) (c : Nat) (w : World) (h : Rdp w A ps) (hl : ps.length ≤ 9223372036854775807) :
    Calls Try.prog 28 #[bufv bw bh (.slice A ps.length c), .int .i64 x, .int .i64 y] w fun e w' => e = .returned (px (atP bw bh ps x y).r (atP bw bh ps x y).g (atP bw bh ps x y).b (atP bw bh ps x y).a) ∧ Below w.heap.size w w' := by
  obtain ⟨n, hn⟩ : ∃ n, ps.length = n := ⟨_, rfl⟩
  have hs1 := fun W => vsize_any bw bh W
  by_cases hat : atB bw bh n x y = true
  · obtain ⟨hw, hh, hx, hy, hi⟩ := (atB_iff bw bh n x y).1 hat
    have hm := at_mul hw hh hx hy
    rw [(szB_iff bw).2 hw, (szB_iff bh).2 hh] at hs1
    have HS1 := Lib.hid hs1
    obtain ⟨i, hii⟩ : ∃ i : Nat, y * bw + x = i := Int.eq_ofNat_of_zero_le (by omega)
    have hin : i < n := by omega
    have e1 : atP bw bh ps x y = ps[i]'(by omega) := by
      have hat' : atB bw bh ps.length x y = true := by rw [hn]; exact hat
      unfold atP
      rw [if_pos hat', hii, Int.toNat_natCast, List.getD_eq_getElem?_getD, List.getElem?_eq_getElem (by omega), Option.getD_some]
    rw [e1]
    obtain ⟨b, off, hA, hbl, c0, c1, c2, c3⟩ := h i (by omega)
    obtain ⟨X, hX⟩ : ∃ X, ps[i]'(by omega) = X := ⟨_, rfl⟩
    rw [hX] at c0 c1 c2 c3 ⊢
    obtain ⟨xr, xg, xb, xa⟩ := X
    simp only at c0 c1 c2 c3 ⊢
    rw [hn] at hl ⊢
    have ei : i = (y * bw + x).toNat := by omega
    have hm1 : y * bw ≤ 65536 := hm.2.1
    have hm0 : 0 ≤ y * bw := hm.1
    have hin' : y * bw + x < n := hi
    rw [ei] at c0 c1 c2 c3
    subst hA
    clear hat hs1 hX e1 hn h hin hi hm hii ei
    go_enter Try.func28, Try.ntmps28
    go_wp2_with fail
    refine (HS1.out _).mono ?_; rintro e w' ⟨rfl, rfl⟩
    go_wp2_with fail
    refine bodyPost_ret (v := px xr xg xb xa) (by simp [results, Try.results28, go_sem]) rfl ⟨rfl, by (with_reducible repeat (first | assumption | exact Below.refl _ _ | refine Below.setCell ?_ (by first | omega | (simp; done) | (simp; omega)) _ | refine Below.drew ?_ | refine bdrewN ?_ _ | refine Below.alloc ?_ (by first | omega | (simp; done) | (simp; omega)) _))⟩
  · have hat' : ¬ atB bw bh ps.length x y = true := by rw [hn]; exact hat
    have e1 : atP bw bh ps x y = px0 := by unfold atP; rw [if_neg hat']
    rw [e1, hn]
    rw [hn] at hl
    rw [atB_iff] at hat
    clear e1 hat' hn h
    show Calls Try.prog 28 _ w fun e w' => e = .returned (px 0 0 0 0) ∧ Below w.heap.size w w'
    cases k1 : (szB bw && szB bh) with
    | false =>
      rw [k1] at hs1
      have HS1 := Lib.hid hs1
      clear hat k1 hs1
      go_enter Try.func28, Try.ntmps28
      go_wp2_with fail
      refine (HS1.out _).mono ?_; rintro e w' ⟨rfl, rfl⟩
      go_wp2_with fail
      all_goals (refine bodyPost_ret (v := px 0 0 0 0) (by simp [results, Try.results28, go_sem]) rfl ⟨rfl, by (with_reducible repeat (first | assumption | exact Below.refl _ _ | refine Below.setCell ?_ (by first | omega | (simp; done) | (simp; omega)) _ | refine Below.drew ?_ | refine bdrewN ?_ _ | refine Below.alloc ?_ (by first | omega | (simp; done) | (simp; omega)) _))⟩)
    | true =>
        obtain ⟨k1a, k1b⟩ := Bool.and_eq_true_iff.1 k1
        have hw := (szB_iff bw).1 k1a
        have hh := (szB_iff bh).1 k1b
        rw [k1] at hs1
        have HS1 := Lib.hid hs1
        clear k1 k1a k1b hs1
        by_cases h1 : x < 0
        · clear hat
          go_enter Try.func28, Try.ntmps28
          go_wp2_with fail
          refine (HS1.out _).mono ?_; rintro e w' ⟨rfl, rfl⟩
          go_wp2_with fail
          all_goals (refine bodyPost_ret (v := px 0 0 0 0) (by simp [results, Try.results28, go_sem]) rfl ⟨rfl, by (with_reducible repeat (first | assumption | exact Below.refl _ _ | refine Below.setCell ?_ (by first | omega | (simp; done) | (simp; omega)) _ | refine Below.drew ?_ | refine bdrewN ?_ _ | refine Below.alloc ?_ (by first | omega | (simp; done) | (simp; omega)) _))⟩)
        · by_cases h2 : y < 0
          · clear hat
            go_enter Try.func28, Try.ntmps28
            go_wp2_with fail
            refine (HS1.out _).mono ?_; rintro e w' ⟨rfl, rfl⟩
            go_wp2_with fail
            all_goals (refine bodyPost_ret (v := px 0 0 0 0) (by simp [results, Try.results28, go_sem]) rfl ⟨rfl, by (with_reducible repeat (first | assumption | exact Below.refl _ _ | refine Below.setCell ?_ (by first | omega | (simp; done) | (simp; omega)) _ | refine Below.drew ?_ | refine bdrewN ?_ _ | refine Below.alloc ?_ (by first | omega | (simp; done) | (simp; omega)) _))⟩)
          · by_cases h3 : bw ≤ x
            · clear hat
              go_enter Try.func28, Try.ntmps28
              go_wp2_with fail
              refine (HS1.out _).mono ?_; rintro e w' ⟨rfl, rfl⟩
              go_wp2_with fail
              all_goals (refine bodyPost_ret (v := px 0 0 0 0) (by simp [results, Try.results28, go_sem]) rfl ⟨rfl, by (with_reducible repeat (first | assumption | exact Below.refl _ _ | refine Below.setCell ?_ (by first | omega | (simp; done) | (simp; omega)) _ | refine Below.drew ?_ | refine bdrewN ?_ _ | refine Below.alloc ?_ (by first | omega | (simp; done) | (simp; omega)) _))⟩)
            · by_cases h4 : bh ≤ y
              · clear hat
                go_enter Try.func28, Try.ntmps28
                go_wp2_with fail
                refine (HS1.out _).mono ?_; rintro e w' ⟨rfl, rfl⟩
                go_wp2_with fail
                all_goals (refine bodyPost_ret (v := px 0 0 0 0) (by simp [results, Try.results28, go_sem]) rfl ⟨rfl, by (with_reducible repeat (first | assumption | exact Below.refl _ _ | refine Below.setCell ?_ (by first | omega | (simp; done) | (simp; omega)) _ | refine Below.drew ?_ | refine bdrewN ?_ _ | refine Below.alloc ?_ (by first | omega | (simp; done) | (simp; omega)) _))⟩)
              · have hm := at_mul hw hh (show 0 ≤ x ∧ x < bw by omega) (show 0 ≤ y ∧ y < bh by omega)
                have h5 : (n : Int) ≤ y * bw + x := by
                  by_cases h6 : y * bw + x < n
                  · exact absurd ⟨hw, hh, ⟨by omega, by omega⟩, ⟨by omega, by omega⟩, h6⟩ hat
                  · omega
                clear hat
                go_enter Try.func28, Try.ntmps28
                go_wp2_with fail
                refine (HS1.out _).mono ?_; rintro e w' ⟨rfl, rfl⟩
                go_wp2_with fail
                all_goals (refine bodyPost_ret (v := px 0 0 0 0) (by simp [results, Try.results28, go_sem]) rfl ⟨rfl, by (with_reducible repeat (first | assumption | exact Below.refl _ _ | refine Below.setCell ?_ (by first | omega | (simp; done) | (simp; omega)) _ | refine Below.drew ?_ | refine bdrewN ?_ _ | refine Below.alloc ?_ (by first | omega | (simp; done) | (simp; omega)) _))⟩)
end Go.Proofs.Ytgikmcgoaihggaa
